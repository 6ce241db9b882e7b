/-
  Proved: what the program's DecodeImage does. Conditions: as each theorem says.
  Proved: what the program's DecodeImage and EncodeImage do. Conditions: as each theorem says.
  Proved: oriellaw13.ArchiveFaults returns true. Conditions: as each theorem says.
-/
import Derived.Test.YtifhnpkapgaboaaGreatPi34
import Derived.Test.YtifhnpkapgaboaaGreatPi29
set_option linter.unusedVariables false
set_option linter.unusedSimpArgs false
namespace Go.Proofs.YtifhnpkapgaboaaGreat.arch
open Go.RowKit
open heap
open maps (MapB)
open path (sv str_size)
open fld (Fld FldP applyF tur_new)
set_option maxRecDepth 100000
theorem Ground_none (A:Option Addr) (c:Nat) (w:World):Calls Tryz.prog 28 #[.slice A 0 c] w fun e w'=>e = .returned (PP (w.heap.size + 2)) ∧ FldP w' (w.heap.size + 2) w.heap.size (w.heap.size + 1) F0 ∧ Below w.heap.size w w':=by
 have hmm := @run_makeMap_plain Tryz.prog
 go_enter Tryz.func28,Tryz.ntmps28
 go_wp2_with fail
 have HF:=Lib.hid (blk_new ((w.alloc (.map #[] 0)).alloc (.map #[] 0)) (.cells #[.map (some w.heap.size),.map (some (w.heap.size + 1))] 119 (0,0)))
 have HM1:Hid (MapB (((w.alloc (.map #[] 0)).alloc (.map #[] 0)).alloc (.cells #[.map (some w.heap.size),.map (some (w.heap.size + 1))] 119 (0,0))) w.heap.size []):=((MapB.new w).kept (fld.blk_old' (by simp) _)).kept (fld.blk_old' (by simp;omega) _)
 have HM2:Hid (MapB (((w.alloc (.map #[] 0)).alloc (.map #[] 0)).alloc (.cells #[.map (some w.heap.size),.map (some (w.heap.size + 1))] 119 (0,0))) (w.alloc (.map #[] 0)).heap.size []):=(MapB.new (w.alloc (.map #[] 0))).kept (fld.blk_old' (by simp) _)
 have HB:Hid (Below w.heap.size w (((w.alloc (.map #[] 0)).alloc (.map #[] 0)).alloc (.cells #[.map (some w.heap.size),.map (some (w.heap.size + 1))] 119 (0,0)))):=(((Below.refl _ _).alloc (Nat.le_refl _) _).alloc (by simp) _).alloc (by simp;omega) _
 simp only [World.size_alloc] at HF HM2
 generalize ((w.alloc (.map #[] 0)).alloc (.map #[] 0)).alloc (.cells #[.map (some w.heap.size),.map (some (w.heap.size + 1))] 119 (0,0)) = w1 at *
 go_loopw [12] (fun v12 wr=>wr = w1 ∧ v12 = .int .i64 0) (fun _ _=>0)
 case atStart=>exact ⟨rfl,rfl⟩
 case round =>
  obtain ⟨rfl,rfl⟩:=hrel
  go_wp2_with fail
  go_ret
  exact ⟨rfl,⟨HF.out,HM1.out,HM2.out,by omega⟩,HB.out⟩
end Go.Proofs.YtifhnpkapgaboaaGreat.arch
namespace Go.Proofs.YtifhnpkapgaboaaGreat.arch
open Go.RowKit
open heap
open path (sv str_size)
open fld (Fld FldP applyF ApP Apply_any Many_any tur_new)
set_option maxRecDepth 100000
theorem May_none (A:Option Addr) (c:Nat) (w:World):Calls Tryz.prog 27 #[.agg #[.slice A 0 c]] w fun r w'=>r = .returned (.tuple #[.int .i64 0,.int .i64 0]) ∧ Below w.heap.size w w':=by
 have HB:Hid (Below w.heap.size w (w.alloc (.cells #[.slice A 0 c] 44 (0,0)))):=(Below.refl _ _).alloc (Nat.le_refl _) _
 have hbx:=blk_new w (.cells #[.slice A 0 c] 44 (0,0))
 have q0:=blk_cell hbx 0
 have ql:=blk_lt hbx
 simp only [List.getElem?_toArray,List.getElem?_cons_zero] at q0
 go_enter Tryz.func27,Tryz.ntmps27
 go_wp2_with fail
 change Code.wp _ _ _ _ (w.alloc (.cells #[.slice A 0 c] 44 (0,0)))
 generalize (w.alloc (.cells #[.slice A 0 c] 44 (0,0))) = w1 at *
 go_loopw [14] (fun v4 wr=>v4 = .int .i64 0 ∧ w1 = wr) (fun _ _=>0)
 case atStart=>exact ⟨rfl,rfl⟩
 case round =>
  obtain ⟨rfl,rfl⟩:=hrel
  go_wp2_with fail
  go_ret2
  exact ⟨rfl,HB.out⟩
theorem Laid_none (A:Option Addr) (c:Nat) (w:World):Calls Tryz.prog 32 #[.agg #[.slice A 0 c]] w fun r w'=>r = .returned (sv [79,82,76,0]) ∧ Below w.heap.size w w':=by
 have HB:Hid (Below w.heap.size w (w.alloc (.cells #[.slice A 0 c] 44 (0,0)))):=(Below.refl _ _).alloc (Nat.le_refl _) _
 have HBX:=Lib.hid (blk_new w (.cells #[.slice A 0 c] 44 (0,0)))
 go_enter Tryz.func32,Tryz.ntmps32
 go_upto_region 2 with fail
 change Code.wp _ _ _ _ ((w.alloc (.cells #[.slice A 0 c] 44 (0,0))).alloc (.cells #[.pointer none,.slice none 0 0] 127 (0,0)))
 have HIS0:=Lib.hid (new_builder (w.alloc (.cells #[.slice A 0 c] 44 (0,0))))
 have hsz:(w.alloc (.cells #[.slice A 0 c] 44 (0,0))).heap.size = w.heap.size + 1:=by simp
 rw [hsz] at HIS0
 have HB1:Hid (Below w.heap.size w ((w.alloc (.cells #[.slice A 0 c] 44 (0,0))).alloc (.cells #[.pointer none,.slice none 0 0] 127 (0,0)))):=HB.out.alloc HB.out.size _
 have HBX1:=Lib.hid (blk_old HBX.out (.cells #[.pointer none,.slice none 0 0] 127 (0,0)))
 generalize ((w.alloc (.cells #[.slice A 0 c] 44 (0,0))).alloc (.cells #[.pointer none,.slice none 0 0] 127 (0,0))) = w1 at *
 clear hsz HB HBX
 have HWS:=Lib.hid (ws_any (w.heap.size + 1) [] [79,82,76] w1 HIS0.out (by simp))
 go_wp2_with fail
 refine HWS.out.mono ?_;rintro r w2 ⟨rfl,his,hb⟩
 have HIS:=Lib.hid his
 have HBX2:=Lib.hid ((hb.block w.heap.size (by omega)).trans HBX1.out)
 have HB2:Hid (Below w.heap.size w w2):=HB1.out.trans (hb.mono (by omega))
 clear his hb HWS HBX1 HB1 HIS0
 have q0:=blk_cell HBX2.out 0
 have ql:=blk_lt HBX2.out
 simp only [List.getElem?_toArray,List.getElem?_cons_zero] at q0
 go_wp2_with fail
 clear q0 ql
 go_loopw [10] (fun v10 wr=>v10 = .int .i64 0 ∧ w2 = wr) (fun _ _=>0)
 case atStart=>exact ⟨rfl,rfl⟩
 case round =>
  obtain ⟨rfl,rfl⟩:=hrel
  have HWB:=Lib.hid (wb_any (w.heap.size + 1) [79,82,76] 0 w2 HIS.out (by simp))
  go_wp2_with fail
  refine HWB.out.mono ?_;rintro r w3 ⟨rfl,hi,hb⟩
  have HI3:=Lib.hid hi
  have HB3:Hid (Below w.heap.size w w3):=HB2.out.trans (hb.mono (by omega))
  have HSTR:=Lib.hid (Tryz.Builder_String_any (w.heap.size + 1) (w.heap.size + 1) [79,82,76,0] w3 hi (Nat.le_of_lt hi.lt))
  clear hi hb HWB
  go_wp2_with fail
  refine HSTR.out.mono ?_;rintro r w4 ⟨rfl,hb⟩
  have HB4:Hid (Below w.heap.size w w4):=HB3.out.trans (hb.mono (by omega))
  clear hb HSTR
  go_wp2_with fail
  go_ret
  exact ⟨rfl,HB4.out⟩
end Go.Proofs.YtifhnpkapgaboaaGreat.arch
namespace Go.Proofs.YtifhnpkapgaboaaGreat.arch
open Go.RowKit
open heap
open path (sv str_size)
set_option maxRecDepth 100000
end Go.Proofs.YtifhnpkapgaboaaGreat.arch
