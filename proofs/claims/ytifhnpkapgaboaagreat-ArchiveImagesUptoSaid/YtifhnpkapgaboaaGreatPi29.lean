/-
  Proved: what package archive reads of an image without layers. Conditions: as each theorem says.
  Proved: oriellaw13.awake returns true. Conditions: as each theorem says.
  Proved: what LendLayer and KeptEntries do of a layer's entries. Conditions: as each theorem says.
  Proved: what KeptEntries does, and the document's Encode of a layer that came in. Conditions: as each theorem says.
-/
import Derived.Test.YtifhnpkapgaboaaGreatPi28
import Derived.Deep.Upon
set_option linter.unusedVariables false
set_option linter.unusedSimpArgs false
namespace Go.Proofs.YtifhnpkapgaboaaGreat.arch
open Go.RowKit
open heap
open maps (MapS)
open path (sv str_size)
set_option maxRecDepth 100000
def mkI:Nm := [79,82,73]
def exI:Nm := [79,82,73,0,120]
def GNil:Unit → World → Nat → Value → Prop:=fun _ _ _ v=>v = .slice none 0 0
theorem GNil.keeps:Keeps GNil:=⟨fun h=>⟨none,0,0,h⟩,fun h _ _=>h,fun h _=>h⟩
theorem decodeI_ex (q:Nat) (w:World) (h:w.heap[q]? = some (RdO exI 0)):Calls Tryz.prog 41 #[PP q] w (ImP GNil q exI (.ok ((),4)) w):=by
 have hl:=blk_lt h
 have h1:=blk_old h (.cells #[.slice none 0 0] 24 (0,0))
 have HM:=Lib.hid (mark_any q exI mkI 0 _ h1 (Nat.zero_le _) (by decide) (by decide))
 have e1:markD exI mkI 0 = .ok ((),3):=rfl
 rw [e1] at HM
 have HI:=Lib.hid (blk_new w (.cells #[.slice none 0 0] 24 (0,0)))
 have HT:Hid (Turned [q] w (w.alloc (.cells #[.slice none 0 0] 24 (0,0)))):=(Turned.refl _ _).alloc _
 clear e1 h1 h
 go_enter Tryz.func41,Tryz.ntmps41
 go_wp2_with fail
 change Calls _ _ #[_,sv mkI] _ _
 refine HM.out.mono ?_;rintro e w2 ⟨rfl,hq2,ht2⟩
 have HI2:=Lib.hid (ht2.kept HI.out (by simp;omega))
 have HT2:=Lib.hid (HT.out.trans ht2)
 have c1:=blk_cell hq2 1
 have ql:=blk_lt hq2
 simp only [List.getElem?_toArray,List.getElem?_cons_zero,List.getElem?_cons_succ] at c1
 have HN:=Lib.hid (number_any q exI 3 1 w2 hq2 (by decide) (by decide) (.inl rfl))
 have e2:numD exI 3 1 = .ok (0,4):=rfl
 rw [e2] at HN
 clear ht2 HM HI HT e2 hq2
 go_wp2_with fail
 refine HN.out.mono ?_;rintro e w3 ⟨rfl,hq3,ht3⟩
 have HI3:=Lib.hid (ht3.kept HI2.out (by simp;omega))
 have HT3:=Lib.hid (HT2.out.trans ht3)
 have HQ:=Lib.hid hq3
 clear ht3 hq3 HN HI2 HT2 c1 ql
 go_wp2_with fail
 refine (fail_no _ _ _).mono ?_;rintro e w' ⟨rfl,rfl⟩
 go_wp2_with fail
 refine (Ground_nil w3).mono ?_;rintro e w4 ⟨rfl,-,-,-,hb⟩
 have HI4:=Lib.hid (blk_below HI3.out hb)
 have HQ4:=Lib.hid (blk_below HQ.out hb)
 have HT4:=Lib.hid (HT3.out.trans (Turned.of_below hb))
 clear hb HI3 HQ HT3
 go_wp2_with fail
 go_loopw [20] (fun v20 wr=>wr = w4 ∧ v20 = .int .i64 0) (fun _ _=>0)
 case atStart=>exact ⟨rfl,rfl⟩
 case round =>
  obtain ⟨rfl,rfl⟩:=hrel
  have c2:=blk_cell HI4.out 0
  have f2:=blk_free HI4.out 0
  have l2:=blk_lt HI4.out
  simp only [List.getElem?_toArray,List.getElem?_cons_zero] at c2
  go_wp2_with fail
  have k2:=blk_cell (blk_set HI4.out 0 (.slice none 0 0)) 0
  simp only [List.setIfInBounds_toArray,List.set_cons_zero,List.getElem?_toArray,List.getElem?_cons_zero] at k2
  refine bodyPost_ret (v:=.agg #[.slice none 0 0]) (by simp [results,Tryz.results41,go_sem,k2]) rfl ?_
  exact ⟨_,rfl,rfl,(blk_other (by omega) 0 _).trans HQ4.out,tur_set HT4.out (Nat.le_refl _) _⟩
theorem DecodeImage_ex (w:World):Calls Tryz.prog 13 #[sv exI] w fun e w'=>e = .returned (.tuple #[.agg #[.slice none 0 0],.int .i64 4,.int .i64 1310]) ∧ Below w.heap.size w w':=by
 have HR:=Lib.hid (readI_any GNil GNil.keeps exI (.ok ((),4)) (w.alloc (.cells #[.slice none 0 0] 24 (0,0))) (by decide) (fun q W h hl=>decodeI_ex q W h))
 have hR:readG exI (.ok ((),4)) = (.error (4,1310):Except Flt Unit):=rfl
 rw [hR] at HR
 clear hR
 have hmf:∀ (fn:Fn) (first cap:Array Value) (w:World),(Instr.makeFunc fn first cap).run Tryz.prog w = .ok (.func fn first cap) w:=fun _ _ _ _=>rfl
 have HN:=Lib.hid (blk_new w (.cells #[.slice none 0 0] 24 (0,0)))
 have HB:Hid (Below w.heap.size w (w.alloc (.cells #[.slice none 0 0] 24 (0,0)))):=(Below.refl _ _).alloc (Nat.le_refl _) _
 go_enter Tryz.func13,Tryz.ntmps13
 go_wp2_with fail
 refine (HR.out).mono ?_
 rintro e w2 ⟨rfl,hb⟩
 have HN2:=blk_below HN.out hb
 have HB2:=Lib.hid (HB.out.trans (hb.mono (by simp)))
 clear hb HB HR
 have c2:=blk_cell HN2 0
 have f2:=blk_free HN2 0
 have l2:=blk_lt HN2
 simp only [List.getElem?_toArray,List.getElem?_cons_zero] at c2
 go_wp2_with fail
 have k2:=blk_cell (blk_set HN2 0 (.slice none 0 0)) 0
 simp only [List.setIfInBounds_toArray,List.set_cons_zero,List.getElem?_toArray,List.getElem?_cons_zero] at k2
 refine bodyPost_ret (v:=.tuple #[.agg #[.slice none 0 0],.int .i64 4,.int .i64 1310]) (by simp [results,Tryz.results13,go_sem,k2]) rfl ?_
 exact ⟨rfl,HB2.out.setCell (by simp) _⟩
set_option maxHeartbeats 1000000 in
theorem EncodeImage_ex (w:World):Calls Tryz.prog 8 #[.agg #[.slice none 0 0]] w fun e w'=>e = .returned (.tuple #[sv [79,82,73,0],.int .i64 0,.int .i64 0]) ∧ Below w.heap.size w w':=by
 have HI:=Lib.hid (blk_new w (.cells #[.slice none 0 0] 24 (0,0)))
 have HB:Hid (Below w.heap.size w (w.alloc (.cells #[.slice none 0 0] 24 (0,0)))):=(Below.refl _ _).alloc (Nat.le_refl _) _
 go_enter Tryz.func8,Tryz.ntmps8
 go_wp2_with fail
 change Code.wp _ _ _ _ (w.alloc (.cells #[.slice none 0 0] 24 (0,0)))
 generalize w.alloc (.cells #[.slice none 0 0] 24 (0,0)) = w1 at *
 go_loopw [23] (fun v wr=>wr = w1 ∧ v = .int .i64 0) (fun _ _=>0)
 case atStart=>exact ⟨rfl,rfl⟩
 case round =>
  obtain ⟨rfl,rfl⟩:=hrel
  go_wp2_with fail
  refine (Ground_nil wr).mono ?_;rintro e w4 ⟨rfl,-,-,-,hb⟩
  have HI2:=Lib.hid (blk_below HI.out hb)
  have HB2:=Lib.hid (HB.out.trans (hb.mono HB.out.size))
  clear hb
  have c0:=blk_cell HI2.out 0
  have l0:=blk_lt HI2.out
  simp only [List.getElem?_toArray,List.getElem?_cons_zero] at c0
  go_wp2_with fail
  refine (le1_any 0 w4 (by decide)).mono ?_;rintro e w5 ⟨rfl,hb⟩
  have HI3:=Lib.hid (blk_below HI2.out hb)
  have HB5:=Lib.hid (HB2.out.trans (hb.mono HB2.out.size))
  clear hb HB2 c0 l0
  have c0:=blk_cell HI3.out 0
  have l0:=blk_lt HI3.out
  simp only [List.getElem?_toArray,List.getElem?_cons_zero] at c0
  have hcat:(⟨#[79,82,73]⟩:ByteArray) ++ ⟨([UInt8.ofNat 0]:Nm).toArray⟩ = ⟨([79,82,73,0]:Nm).toArray⟩:=by rfl
  have hsz:(⟨([79,82,73,0]:Nm).toArray⟩:ByteArray).size = 4:=by rfl
  go_wp2_with fail
  go_loopw [11,53] (fun s v wr2=>wr2 = w5 ∧ v = .int .i64 0 ∧ s = sv [79,82,73,0]) (fun _ _ _=>0)
  case atStart=>exact ⟨rfl,rfl,rfl⟩
  case round =>
   obtain ⟨rfl,rfl,rfl⟩:=hrel
   go_wp2_with fail
   refine bodyPost_ret (v:=.tuple #[sv [79,82,73,0],.int .i64 0,.int .i64 0]) (by simp [results,Tryz.results8,go_sem]) rfl ?_
   exact ⟨rfl,HB5.out⟩
end Go.Proofs.YtifhnpkapgaboaaGreat.arch
namespace Go.Proofs.YtifhnpkapgaboaaGreat.arch
open Go.RowKit
open heap
open path (sv str_size)
set_option maxRecDepth 100000
theorem Num_any (e:Int) (w:World):Calls Tryz.prog 10 #[.int .i64 e] w fun e' w'=>e' = .returned (.int .i64 e) ∧ w = w':=by
 go_enter Tryz.func10,Tryz.ntmps10
 go_wp2_with fail
 go_ret
 exact ⟨rfl,rfl⟩
def exE:Ent:=⟨[97],2,420,[120,121]⟩
theorem ex_enc:encL [exE] = ([79,82,76,2,1,97,164,1,2,0,120,121,0],0,0):=by decide
theorem ex_dec:decD [79,82,76] = .error (3,1300):=by rfl
abbrev exO:Obj:=.cells #[sv [97],.int .i64 2,.int .i64 420,sv [120,121]] 58 (0,0)
theorem ex_at (w:World) (b:Nat) (h:w.heap[b]? = some exO):EAt w b 0 [exE]:=by
 intro i e he
 match i with
 | 0 =>
  cases he
  exact ⟨blk_cell h 0,blk_cell h 1,blk_cell h 2,blk_cell h 3⟩
 | i + 1=>cases he
theorem awake_any (w:World):Calls Tryz.prog 12 #[] w fun e w'=>e = .returned (.bool true) ∧ Below w.heap.size w w':=by
 have HE:=Lib.hid (Encode_any [exE] w.heap.size 0 1 _ (ex_at _ _ (blk_new w exO)) (by decide) (by decide) (by intro x hx;cases hx with | head=>exact ⟨by decide,by decide⟩ | tail _ h=>cases h))
 have HB:Hid (Below w.heap.size w (w.alloc exO)):=(Below.refl _ _).alloc (Nat.le_refl _) _
 rw [ex_enc] at HE
 go_enter Tryz.func12,Tryz.ntmps12
 go_wp2_with fail
 refine HE.out.mono ?_;rintro e w1 ⟨rfl,hb⟩
 have HB1:=Lib.hid (HB.out.trans (hb.mono HB.out.size))
 clear hb HE HB
 go_wp2_with fail
 have HD:=Lib.hid (Decode_any [79,82,76] w1 (by decide))
 rw [ex_dec] at HD
 refine HD.out.mono ?_;rintro e w2 ⟨rfl,hb⟩
 have HB2:=Lib.hid (HB1.out.trans (hb.mono HB1.out.size))
 clear hb HD HB1
 go_wp2_with fail
 refine (EncodeImage_ex _).mono ?_;rintro e w3 ⟨rfl,hb⟩
 have HB3:=Lib.hid ((HB2.out.alloc HB2.out.size _).trans (hb.mono (HB2.out.alloc HB2.out.size _).size))
 clear hb HB2
 go_wp2_with fail
 refine (DecodeImage_ex w3).mono ?_;rintro e w4 ⟨rfl,hb⟩
 have HB4:=Lib.hid (HB3.out.trans (hb.mono HB3.out.size))
 clear hb HB3
 go_wp2_with fail
 refine (Num_any _ _).mono ?_;rintro e w' ⟨rfl,rfl⟩
 go_wp2_with fail
 refine (Num_any _ _).mono ?_;rintro e w' ⟨rfl,rfl⟩
 go_wp2_with fail
 refine (Num_any _ _).mono ?_;rintro e w' ⟨rfl,rfl⟩
 go_wp2_with fail
 refine (Num_any _ _).mono ?_;rintro e w' ⟨rfl,rfl⟩
 go_wp2_with fail
 go_ret
 exact ⟨rfl,HB4.out.alloc HB4.out.size _⟩
def EIn (w:World) (A:Option Addr) (c:Nat) (es:List Ent):Prop:=es.length ≤ c ∧ (es = [] ∨ ∃ b o,A = some ⟨b,o,none⟩ ∧ EAt w b o es)
theorem EIn.below {w w':World} {A:Option Addr} {c:Nat} {es:List Ent} (h:EIn w A c es) (hb:Below w.heap.size w w'):EIn w' A c es:=⟨h.1,h.2.imp id fun ⟨b,o,h1,h2⟩=>⟨b,o,h1,h2.below hb⟩⟩
theorem rowE_cells {w:World} {b o:Nat} {es:List Ent} (h:EAt w b o es):∀ j u,(rowE es)[j]? = some u → w.cell? ((⟨b,o,none⟩:Addr).add j) = some u:=by
 intro j u hu
 have hl:j < es.length * 4:=by
  have:=(List.getElem?_eq_some_iff.1 hu).1
  rw [rowE_len] at this
  exact this
 have hi:j / 4 < es.length:=by omega
 obtain ⟨e,he⟩:∃ e,es[j / 4]? = some e:=⟨_,List.getElem?_eq_getElem hi⟩
 obtain ⟨g0,g1,g2,g3⟩:=rowE_get es (j / 4) e he
 obtain ⟨k0,k1,k2,k3⟩:=h (j / 4) e he
 have hadd:(⟨b,o,none⟩:Addr).add j = ⟨b,o + j,none⟩:=by unfold Addr.add;split <;> simp_all
 rw [hadd]
 have h4:j % 4 = 0 ∨ j % 4 = 1 ∨ j % 4 = 2 ∨ j % 4 = 3:=by omega
 rcases h4 with h4 | h4 | h4 | h4
 ·have hj:j = j / 4 * 4:=by omega
  rw [hj,g0] at hu;cases hu;rw [hj];exact k0
 ·have hj:j = j / 4 * 4 + 1:=by omega
  rw [hj,g1] at hu;cases hu;rw [hj,← Nat.add_assoc];exact k1
 ·have hj:j = j / 4 * 4 + 2:=by omega
  rw [hj,g2] at hu;cases hu;rw [hj,← Nat.add_assoc];exact k2
 ·have hj:j = j / 4 * 4 + 3:=by omega
  rw [hj,g3] at hu;cases hu;rw [hj,← Nat.add_assoc];exact k3
theorem rowE_one (es:List Ent):∀ u ∈ rowE es,u.oneCell' = true:=by
 intro u hu
 unfold rowE at hu
 rw [List.mem_flatten] at hu
 obtain ⟨l,hl,hu⟩:=hu
 obtain ⟨e,-,rfl⟩:=List.mem_map.1 hl
 exact entC_one e u hu
theorem rowE_app (xs ys:List Ent):rowE (xs ++ ys) = rowE xs ++ rowE ys:=by simp [rowE]
theorem ERow.apps {w:World} {base b o m c:Nat} {v:Value} {es fs:List Ent} (hr:ERow w base v es) (hf:EAt w b o fs) (h0:fs ≠ []) (hc:m = fs.length) (hn:es.length + fs.length ≤ 2932031007402) (hb:base ≤ w.heap.size) :
  ∃ g cap W2,(Builtin.append_ #[41,41] 41 #[v,.slice (some ⟨b,o,none⟩) m c]).run Tryz.prog w = .ok (.slice (some ⟨g,0,none⟩) (es.length + m) cap) W2 ∧ ERow W2 base (.slice (some ⟨g,0,none⟩) (es.length + m) cap) (es ++ fs) ∧ Turned v.ownBlock.toList w W2 ∧ g < W2.heap.size:=by
 subst hc
 obtain ⟨i0,hi,hz0,hz1,hz2⟩:=info_parts infoE
 have hp:0 < fs.length:=List.length_pos_iff.2 h0
 obtain ⟨g,cap,w',h1,h2,h3,h4,h5⟩:=run_append_lies (P:=Tryz.prog) (w:=w) 41 41 base 58 i0 _ 4 48 Tryz.underlying41 hi hz0 hz1 hz2 rfl (by decide) v es.length _ hr ⟨b,o,none⟩ fs.length c (rowE fs) (rowE_len fs)
  (rowE_cells hf) (rowE_one fs) hp (by unfold maxLen;omega) (by omega) hb _ rfl
 refine ⟨g,cap,w',h1,?_,⟨h3.os,h3.tape,h3.output,h3.size,fun b hb hn=>h3.block b hb (fun e=>hn (by simp [← e]))⟩,h5⟩
 unfold ERow
 rw [List.length_append,rowE_app]
 exact h2
theorem ERow.made (w:World):ERow (w.alloc (.cells #[] 58 (0,0))) w.heap.size (.slice (some ⟨w.heap.size,0,none⟩) 0 0) []:=
 ⟨rfl,.inr ⟨w.heap.size,0,#[],rfl,Nat.le_refl _,blk_new _ _,Nat.le_refl _,Nat.zero_le _,rfl,rfl⟩⟩
theorem app_none (w:World) (a:Addr) (A:Option Addr) (n m c:Nat) (h:n ≤ m):(Builtin.append_ #[41,41] 41 #[.slice (some a) n m,.slice A 0 c]).run Tryz.prog w = .ok (.slice (some a) n m) w:=by
 obtain ⟨i0,hi,hz0,hz1,hz2⟩:=info_parts infoE
 have hu:=Tryz.underlying41
 cases A <;> simp [Builtin.append_,Builtin.lenOf,Builtin.firstCells,run_underlying hu,sizeOf,typeInfo,hi,storeCells,loadCellsFrom,loadCells,Result.andThen,h]
theorem CopyEntries_any (es:List Ent) (A:Option Addr) (c:Nat) (w:World) (h:EIn w A c es) (hn:es.length ≤ 2932031007400) :
  Calls Tryz.prog 50 #[.slice A es.length c] w fun e w'=>∃ g cap,e = .returned (.slice (some ⟨g,0,none⟩) es.length cap) ∧ ERow w' w.heap.size (.slice (some ⟨g,0,none⟩) es.length cap) es ∧ Below w.heap.size w w':=by
 have HB:Hid (Below w.heap.size w (w.alloc (.cells #[] 58 (0,0)))):=(Below.refl _ _).alloc (Nat.le_refl _) _
 have HR:=Lib.hid (ERow.made w)
 have hrun:∃ g cap W2,(Builtin.append_ #[41,41] 41 #[.slice (some ⟨w.heap.size,0,none⟩) 0 0,.slice A es.length c]).run Tryz.prog (w.alloc (.cells #[] 58 (0,0))) = .ok (.slice (some ⟨g,0,none⟩) es.length cap) W2 ∧ ERow W2 w.heap.size (.slice (some ⟨g,0,none⟩) es.length cap) es ∧ Below w.heap.size w W2:=by
  rcases h.2 with rfl | ⟨b,o,rfl,he⟩
  ·exact ⟨_,0,_,app_none _ _ A 0 0 c (Nat.le_refl _),HR.out,HB.out⟩
  ·by_cases h0:es = []
   ·subst h0
    exact ⟨_,0,_,app_none _ _ _ 0 0 c (Nat.le_refl _),HR.out,HB.out⟩
   ·obtain ⟨g,cap,W2,h1,h2,h3,-⟩:=ERow.apps (c:=c) HR.out (he.below HB.out) h0 rfl (by simp;omega) (by simp)
    simp only [List.length_nil,Nat.zero_add,List.nil_append] at h1 h2
    exact ⟨g,cap,W2,h1,h2,HB.out.trans (h3.below (by simp) (fun k hk=>by simp [Value.ownBlock] at hk;omega))⟩
 obtain ⟨g,cap,W2,h1,h2,h3⟩:=hrun
 have HRUN:=Lib.hid h1
 have HR2:=Lib.hid h2
 have HB2:=Lib.hid h3
 clear h h1 h2 h3 HR
 go_enter Tryz.func50,Tryz.ntmps50
 go_wp2_with (at_builtin;refine reg.wpList_append rfl rfl rfl rfl rfl HRUN.out ?_)
 go_ret
 exact ⟨_,_,rfl,HR2.out,HB2.out⟩
def roomE:Ent:=⟨[126,114,111,111,109],0,0,[]⟩
theorem LendEntries_any (es:List Ent) (A:Option Addr) (c:Nat) (w:World) (h:EIn w A c es) (hn:es.length ≤ 2932031007000) :
  Calls Tryz.prog 17 #[.slice A es.length c] w fun e w'=>∃ g cap,e = .returned (.slice (some ⟨g,0,none⟩) es.length cap) ∧ ERow w' w.heap.size (.slice (some ⟨g,0,none⟩) (es.length + 2) cap) (es ++ [roomE,roomE]) ∧ Below w.heap.size w w':=by
 have HC:=Lib.hid (CopyEntries_any es A c w h (by omega))
 clear h
 go_enter Tryz.func17,Tryz.ntmps17
 go_wp2_with fail
 refine HC.out.mono ?_;rintro e w1 ⟨g,cap,rfl,hr,hb⟩
 have HR:=Lib.hid hr
 have HB:=Lib.hid hb
 have hbx:=blk_new w1 (.cells #[sv [126,114,111,111,109],.int .i64 0,.int .i64 0,sv [],sv [126,114,111,111,109],.int .i64 0,.int .i64 0,sv []] 58 (0,0))
 have hat:EAt (w1.alloc (.cells #[sv [126,114,111,111,109],.int .i64 0,.int .i64 0,sv [],sv [126,114,111,111,109],.int .i64 0,.int .i64 0,sv []] 58 (0,0))) w1.heap.size 0 [roomE,roomE]:=fun i e he=>by
  match i with
  | 0=>cases he;exact ⟨blk_cell hbx 0,blk_cell hbx 1,blk_cell hbx 2,blk_cell hbx 3⟩
  | 1=>cases he;exact ⟨blk_cell hbx 4,blk_cell hbx 5,blk_cell hbx 6,blk_cell hbx 7⟩
  | i + 2=>cases he
 obtain ⟨g2,cap2,W2,h1,h2,h3,h4⟩:=ERow.apps (c:=2) (hr.below ((Below.refl _ _).alloc (Nat.le_refl _) _)) hat (by simp) rfl (by simp;omega) (by simp;have:=hb.size;omega)
 have hc:=h2.2
 have hcap:es.length + 2 ≤ cap2 ∧ cap2 ≤ 9223372036854775807:=by
  obtain ⟨_,_,_,hv,h5,h6,-⟩:=h2.slice
  simp only [Value.slice.injEq] at hv
  obtain ⟨-,-,rfl⟩:=hv
  exact ⟨by simpa using h5,h6⟩
 have HRUN:=Lib.hid h1
 have HR2:=Lib.hid h2
 have HB2:Hid (Below w.heap.size w W2):=(hb.alloc hb.size _).trans (h3.below (by simp;have:=hb.size;omega) (fun k hk=>(hr.lt k hk).1))
 clear hr hb HC hbx hat h1 h2 h3 h4 hc
 go_wp2_with (at_builtin;refine reg.wpList_append rfl rfl rfl rfl rfl HRUN.out ?_)
 go_ret
 exact ⟨_,_,rfl,HR2.out,HB2.out⟩
theorem lent_at {w:World} {base g cap n:Nat} {es:List Ent} (h:ERow w base (.slice (some ⟨g,0,none⟩) n cap) (es ++ [roomE,roomE])):EAt w g 0 (es ++ [roomE,roomE]) ∧ base ≤ g ∧ g < w.heap.size ∧ es.length + 2 ≤ cap ∧ cap ≤ 9223372036854775807 ∧ n = es.length + 2:=by
 obtain ⟨A,g2,c,hv,h1,h2,h3,h4⟩:=h.slice
 simp only [Value.slice.injEq] at hv
 obtain ⟨rfl,rfl,rfl⟩:=hv
 obtain ⟨h5,h6,h7⟩:=h3 (by simp)
 cases h5
 exact ⟨h4,h6,h7,by simpa using h1,h2,by simp⟩
theorem EAt.left {w:World} {b o:Nat} {es fs:List Ent} (h:EAt w b o (es ++ fs)):EAt w b o es:=by
 have:=h.take es.length
 rwa [List.take_left'] at this
 rfl
theorem LendLayer_any (es:List Ent) (A:Option Addr) (c:Nat) (w:World) (h:EIn w A c es) (hn:es.length ≤ 2932031007000) :
  Calls Tryz.prog 26 #[.agg #[.slice A es.length c]] w fun e w'=>∃ g cap,e = .returned (.agg #[.slice (some ⟨g,0,none⟩) es.length cap]) ∧ ERow w' w.heap.size (.slice (some ⟨g,0,none⟩) (es.length + 2) cap) (es ++ [roomE,roomE]) ∧ Below w.heap.size w w':=by
 have HB:Hid (Below w.heap.size w ((w.alloc (.cells #[.slice A es.length c] 44 (0,0))).alloc (.cells #[.slice none 0 0] 44 (0,0)))):=((Below.refl _ _).alloc (Nat.le_refl _) _).alloc (by simp) _
 have HC:=Lib.hid (LendEntries_any es A c _ (h.below HB.out) hn)
 have hn2:=blk_new (w.alloc (.cells #[.slice A es.length c] 44 (0,0))) (.cells #[.slice none 0 0] 44 (0,0))
 rw [World.size_alloc] at hn2
 have HN:=Lib.hid hn2
 clear h hn2
 go_enter Tryz.func26,Tryz.ntmps26
 go_wp2_with fail
 refine HC.out.mono ?_;rintro e w1 ⟨g,cap,rfl,hr,hb⟩
 have hn2:=blk_below HN.out hb
 have HR:=Lib.hid hr
 have HB2:=Lib.hid (HB.out.trans (hb.mono HB.out.size))
 clear hr hb HC HB
 have c2:=blk_cell hn2 0
 have f2:=blk_free hn2 0
 have l2:=blk_lt hn2
 simp only [List.getElem?_toArray,List.getElem?_cons_zero] at c2
 have k2:=blk_cell (blk_set hn2 0 (.slice (some ⟨g,0,none⟩) es.length cap)) 0
 simp only [List.setIfInBounds_toArray,List.set_cons_zero,List.getElem?_toArray,List.getElem?_cons_zero] at k2
 go_wp2_with fail
 refine bodyPost_ret (v:=.agg #[.slice (some ⟨g,0,none⟩) es.length cap]) (by simp [results,Tryz.results26,go_sem,k2]) rfl ?_
 refine ⟨_,_,rfl,?_,HB2.out.setCell (by simp) _⟩
 refine ERow.base (HR.out.turned ((Turned.refl [w.heap.size + 1] _).setCell (p:=⟨w.heap.size + 1,0,none⟩) (by simp) (.slice (some ⟨g,0,none⟩) es.length cap)) (fun k hk hm => ?_)) (by simp;omega)
 have k1:=(HR.out.lt k hk).1
 simp at hm k1
 omega
theorem eq_ent (d e:Ent) (w:World):(Op.equalIn 10000 58 (entV d) (entV e)).run Tryz.prog w = .ok (decide (d = e)) w:=by
 have u3:=Tryz.underlying3
 have u9:=Tryz.underlying9
 rw [show (10000:Nat) = 9999 + 1 from rfl,run_equalIn_struct w 9999 58 _ _ (by kernel_rfl) (by kernel_rfl)]
 simp only [Program.fieldsOf,Tryz.underlying58]
 obtain ⟨p,k,m,x⟩:=d
 obtain ⟨p',k',m',x'⟩:=e
 have hs:∀ a b:Nm,((⟨a.toArray⟩:ByteArray) == ⟨b.toArray⟩) = decide (a = b):=fun a b=>by
  rw [Bool.eq_iff_iff,MapKept.bytes_beq,maps.str_inj];simp
 go_simp
 by_cases h1:p = p' <;> by_cases h2:k = k' <;> by_cases h3:m = m' <;> by_cases h4:x = x' <;> simp [h1,h2,h3,h4,hs]
theorem neql_ent (d e:Ent) (w:World):(binOp .neq 58 (entV d) (entV e)).run Tryz.prog w = .ok (.bool (!decide (d = e))) w:=by
 rw [run_neq_struct,eq_ent];rfl
theorem eql_ent (d e:Ent) (w:World):(binOp .eql 58 (entV d) (entV e)).run Tryz.prog w = .ok (.bool (decide (d = e))) w:=by
 rw [run_eql_struct,eq_ent];rfl
theorem SameEntries_same (es:List Ent) (A:Option Addr) (g c cap:Nat) (w:World) (h:EIn w A c es) (hg:EAt w g 0 es) (hcap:es.length ≤ cap) (hcm:cap ≤ 9223372036854775807) (hc:c ≤ 9223372036854775807) :
  Calls Tryz.prog 57 #[.slice (some ⟨g,0,none⟩) es.length cap,.slice A es.length c] w fun e w'=>e = .returned (.bool true) ∧ Below w.heap.size w w':=by
 have H:=Lib.hid h
 have HG:=Lib.hid hg
 have hcl:=h.1
 clear h hg
 go_enter Tryz.func57,Tryz.ntmps57
 go_wp2_with fail
 go_loopg [5] es.length (fun kk v3 wr=>∃ i:Nat,i + kk = es.length ∧ v3 = .int .i64 i ∧ Hid (Below w.heap.size w wr))
 case atStart=>exact ⟨0,by omega,rfl,Below.refl _ _⟩
 case round =>
  obtain ⟨i,hik,rfl,HB⟩:=hrel
  by_cases hlt:i < es.length
  ·cases gk with
   | zero=>omega
   | succ gk =>
   have hltI:(i:Int) < (es.length:Int):=by omega
   obtain ⟨e,he⟩:∃ e,es[i]? = some e:=⟨_,List.getElem?_eq_getElem hlt⟩
   rcases H.out.2 with rfl | ⟨b,o,rfl,hb⟩
   ·simp at hlt
   obtain ⟨x0,x1,x2,x3⟩:=HG.out.below HB.out i e he
   obtain ⟨y0,y1,y2,y3⟩:=hb.below HB.out i e he
   clear hb he
   simp only [Nat.zero_add] at x0 x1 x2 x3
   go_wp2_with fail
   refine reg.region_each (by kernel_rfl) reg.Ext (fun ri v w'=>match ri with
     | 0=>v = .slice (some ⟨g,0,none⟩) es.length cap
     | 1=>v = .int .i64 i
     | 2=>v = .pointer (some ⟨g,i * 4,none⟩)
     | 3=>v = entV e
     | 4=>v = .slice (some ⟨b,o,none⟩) es.length c
     | 5=>v = .int .i64 i
     | 6=>v = .pointer (some ⟨b,o + i * 4,none⟩)
     | 7=>v = entV e
     | 8=>v = .bool false
     | _=>True) reg.Ext.refl reg.Ext.trans ?_ (by kernel_rfl) ?_ ?_
   ·
    intro i v w1 w2 h hx
    rcases i with _|_|_|_|_|_|_|_|_|i
    ·exact h
    ·exact h
    ·exact h
    ·exact h
    ·exact h
    ·exact h
    ·exact h
    ·exact h
    ·exact h
    ·trivial
   ·
    refine ⟨?_,?_,?_,?_,?_,?_,?_,?_,?_,trivial⟩
    ·-- 0: slot 17:=Op.move t0
     intro ra w' hx hs
     have s0:ra.eval (.tmp 0) = .slice (some ⟨g,0,none⟩) es.length cap:=hs.1
     clear hs
     have x0:=hx.cell x0
     have x1:=hx.cell x1
     have x2:=hx.cell x2
     have x3:=hx.cell x3
     have y0:=hx.cell y0
     have y1:=hx.cell y1
     have y2:=hx.cell y2
     have y3:=hx.cell y3
     change Oper.wp _ _ ra w' _ _
     refine reg.wp_value (v:=.slice (some ⟨g,0,none⟩) es.length cap) (w':=w') ?_ ⟨_,rfl,reg.Ext.refl _,rfl⟩
     intro ρ rc rf rg re
     rw [re] at s0
     simp [execOp,go_sem,rc,rf,rg,s0] <;> first | omega | rfl | decide
    ·-- 1: slot 18:=Op.move t5
     intro ra w' hx hs
     have s5:ra.eval (.tmp 5) = .int .i64 i:=hs.1
     clear hs
     have x0:=hx.cell x0
     have x1:=hx.cell x1
     have x2:=hx.cell x2
     have x3:=hx.cell x3
     have y0:=hx.cell y0
     have y1:=hx.cell y1
     have y2:=hx.cell y2
     have y3:=hx.cell y3
     change Oper.wp _ _ ra w' _ _
     refine reg.wp_value (v:=.int .i64 i) (w':=w') ?_ ⟨_,rfl,reg.Ext.refl _,rfl⟩
     intro ρ rc rf rg re
     rw [re] at s5
     simp [execOp,go_sem,rc,rf,rg,s5] <;> first | omega | rfl | decide
    ·-- 2: slot 19:=Op.indexAddr 41 t17 t18
     intro ra w' hx hs
     have s17:ra.eval (.tmp 17) = .slice (some ⟨g,0,none⟩) es.length cap:=hs.1
     have s18:ra.eval (.tmp 18) = .int .i64 i:=hs.2.1
     clear hs
     have x0:=hx.cell x0
     have x1:=hx.cell x1
     have x2:=hx.cell x2
     have x3:=hx.cell x3
     have y0:=hx.cell y0
     have y1:=hx.cell y1
     have y2:=hx.cell y2
     have y3:=hx.cell y3
     change Oper.wp _ _ ra w' _ _
     refine reg.wp_value (v:=.pointer (some ⟨g,i * 4,none⟩)) (w':=w') ?_ ⟨_,rfl,reg.Ext.refl _,rfl⟩
     intro ρ rc rf rg re
     rw [re] at s17 s18
     simp [execOp,go_sem,rc,rf,rg,s17,s18,hltI] <;> first | omega | rfl | decide
    ·-- 3: slot 20:=Op.load 58 t19
     intro ra w' hx hs
     have s19:ra.eval (.tmp 19) = .pointer (some ⟨g,i * 4,none⟩):=hs.1
     clear hs
     have x0:=hx.cell x0
     have x1:=hx.cell x1
     have x2:=hx.cell x2
     have x3:=hx.cell x3
     have y0:=hx.cell y0
     have y1:=hx.cell y1
     have y2:=hx.cell y2
     have y3:=hx.cell y3
     change Oper.wp _ _ ra w' _ _
     refine reg.wp_value (v:=entV e) (w':=w') ?_ ⟨_,rfl,reg.Ext.refl _,rfl⟩
     intro ρ rc rf rg re
     rw [re] at s19
     simp [execOp,go_sem,rc,rf,rg,s19,x0,x1,x2,x3] <;> first | omega | rfl | decide
    ·-- 4: slot 21:=Op.move t1
     intro ra w' hx hs
     have s1:ra.eval (.tmp 1) = .slice (some ⟨b,o,none⟩) es.length c:=hs.1
     clear hs
     have x0:=hx.cell x0
     have x1:=hx.cell x1
     have x2:=hx.cell x2
     have x3:=hx.cell x3
     have y0:=hx.cell y0
     have y1:=hx.cell y1
     have y2:=hx.cell y2
     have y3:=hx.cell y3
     change Oper.wp _ _ ra w' _ _
     refine reg.wp_value (v:=.slice (some ⟨b,o,none⟩) es.length c) (w':=w') ?_ ⟨_,rfl,reg.Ext.refl _,rfl⟩
     intro ρ rc rf rg re
     rw [re] at s1
     simp [execOp,go_sem,rc,rf,rg,s1] <;> first | omega | rfl | decide
    ·-- 5: slot 22:=Op.move t5
     intro ra w' hx hs
     have s5:ra.eval (.tmp 5) = .int .i64 i:=hs.1
     clear hs
     have x0:=hx.cell x0
     have x1:=hx.cell x1
     have x2:=hx.cell x2
     have x3:=hx.cell x3
     have y0:=hx.cell y0
     have y1:=hx.cell y1
     have y2:=hx.cell y2
     have y3:=hx.cell y3
     change Oper.wp _ _ ra w' _ _
     refine reg.wp_value (v:=.int .i64 i) (w':=w') ?_ ⟨_,rfl,reg.Ext.refl _,rfl⟩
     intro ρ rc rf rg re
     rw [re] at s5
     simp [execOp,go_sem,rc,rf,rg,s5] <;> first | omega | rfl | decide
    ·-- 6: slot 23:=Op.indexAddr 41 t21 t22
     intro ra w' hx hs
     have s21:ra.eval (.tmp 21) = .slice (some ⟨b,o,none⟩) es.length c:=hs.1
     have s22:ra.eval (.tmp 22) = .int .i64 i:=hs.2.1
     clear hs
     have x0:=hx.cell x0
     have x1:=hx.cell x1
     have x2:=hx.cell x2
     have x3:=hx.cell x3
     have y0:=hx.cell y0
     have y1:=hx.cell y1
     have y2:=hx.cell y2
     have y3:=hx.cell y3
     change Oper.wp _ _ ra w' _ _
     refine reg.wp_value (v:=.pointer (some ⟨b,o + i * 4,none⟩)) (w':=w') ?_ ⟨_,rfl,reg.Ext.refl _,rfl⟩
     intro ρ rc rf rg re
     rw [re] at s21 s22
     simp [execOp,go_sem,rc,rf,rg,s21,s22,hltI] <;> first | omega | rfl | decide
    ·-- 7: slot 24:=Op.load 58 t23
     intro ra w' hx hs
     have s23:ra.eval (.tmp 23) = .pointer (some ⟨b,o + i * 4,none⟩):=hs.1
     clear hs
     have x0:=hx.cell x0
     have x1:=hx.cell x1
     have x2:=hx.cell x2
     have x3:=hx.cell x3
     have y0:=hx.cell y0
     have y1:=hx.cell y1
     have y2:=hx.cell y2
     have y3:=hx.cell y3
     change Oper.wp _ _ ra w' _ _
     refine reg.wp_value (v:=entV e) (w':=w') ?_ ⟨_,rfl,reg.Ext.refl _,rfl⟩
     intro ρ rc rf rg re
     rw [re] at s23
     simp [execOp,go_sem,rc,rf,rg,s23,y0,y1,y2,y3] <;> first | omega | rfl | decide
    ·-- 8: slot 25:=Op.binOp BinOp.neq 58 t20 t24 58
     intro ra w' hx hs
     have s20:ra.eval (.tmp 20) = entV e:=hs.1
     have s24:ra.eval (.tmp 24) = entV e:=hs.2.1
     clear hs
     have x0:=hx.cell x0
     have x1:=hx.cell x1
     have x2:=hx.cell x2
     have x3:=hx.cell x3
     have y0:=hx.cell y0
     have y1:=hx.cell y1
     have y2:=hx.cell y2
     have y3:=hx.cell y3
     change Oper.wp _ _ ra w' _ _
     refine reg.wp_value (v:=.bool false) (w':=w') ?_ ⟨_,rfl,reg.Ext.refl _,rfl⟩
     intro ρ rc rf rg re
     rw [re] at s20 s24
     simp [execOp,go_sem,rc,rf,rg,s20,s24,neql_ent] <;> first | omega | rfl | decide
   intro rV w' hx hf
   have ve0:rV 0 = .slice (some ⟨g,0,none⟩) es.length cap:=hf 0 (by decide)
   have ve1:rV 1 = .int .i64 i:=hf 1 (by decide)
   have ve2:rV 2 = .pointer (some ⟨g,i * 4,none⟩):=hf 2 (by decide)
   have ve3:rV 3 = entV e:=hf 3 (by decide)
   have ve4:rV 4 = .slice (some ⟨b,o,none⟩) es.length c:=hf 4 (by decide)
   have ve5:rV 5 = .int .i64 i:=hf 5 (by decide)
   have ve6:rV 6 = .pointer (some ⟨b,o + i * 4,none⟩):=hf 6 (by decide)
   have ve7:rV 7 = entV e:=hf 7 (by decide)
   have ve8:rV 8 = .bool false:=hf 8 (by decide)
   clear hf
   simp only [List.zipIdx_cons,List.zipIdx_nil,List.foldl_cons,List.foldl_nil,Act.put,Nat.reduceAdd,List.setIfInBounds_toArray,List.set_cons_succ,List.set_cons_zero,ve0,ve1,ve2,ve3,ve4,ve5,ve6,ve7,ve8]
   clear ve0 ve1 ve2 ve3 ve4 ve5 ve6 ve7 ve8
   clear rV
   go_wp2_with fail
   go_roundg gk
   case rel=>exact ⟨i + 1,by omega,by go_num,HB.out.drew.trans (hx.mono (Nat.le_trans HB.out.size (Nat.le_refl _)))⟩
   case measure=>omega
  ·have hn:¬ (i:Int) < (es.length:Int):=by omega
   go_wp2_with fail
   go_ret
   exact ⟨rfl,HB.out⟩
theorem eql_room (W:World):(binOp .eql 58 (.agg #[.string ⟨#[126,114,111,111,109]⟩,.int .i64 0,.int .i64 0,.string ⟨#[]⟩]) (.agg #[.string ⟨#[126,114,111,111,109]⟩,.int .i64 0,.int .i64 0,.string ⟨#[]⟩])).run Tryz.prog W = .ok (.bool true) W:=eql_ent roomE roomE W
theorem KeptEntries_any (es:List Ent) (A:Option Addr) (g c cap:Nat) (w:World) (h:EIn w A c es) (hg:EAt w g 0 (es ++ [roomE,roomE])) (hcap:es.length + 2 ≤ cap) (hcm:cap ≤ 9223372036854775807) (hc:c ≤ 9223372036854775807) :
  Calls Tryz.prog 22 #[.slice (some ⟨g,0,none⟩) es.length cap,.slice A es.length c] w fun e w'=>e = .returned (.bool true) ∧ Below w.heap.size w w':=by
 have HS:=Lib.hid (SameEntries_same es A g c cap w h hg.left (by omega) hcm hc)
 have HG:=Lib.hid hg
 have hlen:IntKind.i64.wrap ((es.length:Int) + 2) = (es.length:Int) + 2:=IntWalk.i64_in _ (by omega)
 have hlen1:IntKind.i64.wrap ((es.length:Int) + 1) = (es.length:Int) + 1:=IntWalk.i64_in _ (by omega)
 clear h hg
 go_enter Tryz.func22,Tryz.ntmps22
 go_wp2_with fail
 refine HS.out.mono ?_;rintro e w1 ⟨rfl,hb⟩
 have HB:=Lib.hid hb
 obtain ⟨x0,x1,x2,x3⟩:=HG.out.below hb es.length roomE (by simp)
 obtain ⟨y0,y1,y2,y3⟩:=HG.out.below hb (es.length + 1) roomE (by simp)
 clear hb HS HG
 simp only [roomE,Nat.zero_add] at x0 x1 x2 x3 y0 y1 y2 y3
 have heq:=eql_room
 go_wp2_with fail
 go_ret
 exact ⟨rfl,HB.out⟩
theorem Form_none (A:Option Addr) (c:Nat) (w:World):Calls Tryz.prog 33 #[.agg #[.slice A 0 c]] w fun r w'=>r = .returned (.tuple #[.int .i64 0,.int .i64 0]) ∧ Below w.heap.size w w':=by
 have HB:Hid (Below w.heap.size w (w.alloc (.cells #[.slice A 0 c] 44 (0,0)))):=(Below.refl _ _).alloc (Nat.le_refl _) _
 have hbx:=blk_new w (.cells #[.slice A 0 c] 44 (0,0))
 have q0:=blk_cell hbx 0
 have ql:=blk_lt hbx
 simp only [List.getElem?_toArray,List.getElem?_cons_zero] at q0
 go_enter Tryz.func33,Tryz.ntmps33
 go_wp2_with fail
 change Code.wp _ _ _ _ (w.alloc (.cells #[.slice A 0 c] 44 (0,0)))
 generalize (w.alloc (.cells #[.slice A 0 c] 44 (0,0))) = w1 at *
 go_loopw [4] (fun v4 wr=>v4 = .int .i64 0 ∧ w1 = wr) (fun _ _=>0)
 case atStart=>exact ⟨rfl,rfl⟩
 case round =>
  obtain ⟨rfl,rfl⟩:=hrel
  go_wp2_with fail
  go_ret2
  exact ⟨rfl,HB.out⟩
theorem stream_none (A:Option Addr) (c:Nat) (w:World):Calls Tryz.prog 37 #[.agg #[.slice A 0 c]] w fun r w'=>r = .returned (sv [79,82,76,0]) ∧ Below w.heap.size w w':=by
 have HB:Hid (Below w.heap.size w (w.alloc (.cells #[.slice A 0 c] 44 (0,0)))):=(Below.refl _ _).alloc (Nat.le_refl _) _
 have hbx:=blk_new w (.cells #[.slice A 0 c] 44 (0,0))
 have q0:=blk_cell hbx 0
 have ql:=blk_lt hbx
 simp only [List.getElem?_toArray,List.getElem?_cons_zero] at q0
 go_enter Tryz.func37,Tryz.ntmps37
 go_wp2_with fail
 change Code.wp _ _ _ _ (w.alloc (.cells #[.slice A 0 c] 44 (0,0)))
 generalize (w.alloc (.cells #[.slice A 0 c] 44 (0,0))) = w1 at *
 go_loopw [3,4] (fun v3 v4 wr=>v3 = sv [79,82,76] ∧ v4 = .int .i64 0 ∧ w1 = wr) (fun _ _ _=>0)
 case atStart=>exact ⟨rfl,rfl,rfl⟩
 case round =>
  obtain ⟨rfl,rfl,rfl⟩:=hrel
  have hcat:(⟨([79,82,76]:Nm).toArray⟩:ByteArray) ++ ⟨#[0]⟩ = ⟨([79,82,76,0]:Nm).toArray⟩:=by rfl
  go_wp2_with fail
  go_ret
  exact ⟨rfl,HB.out⟩
end Go.Proofs.YtifhnpkapgaboaaGreat.arch
