/-
  Proved: what copyCheck and WriteByte of a strings.Builder do, after the library's own proofs (Derived/Shelf/Strings/Builder1.lean), whose text of copyCheck differs by one panic. Conditions: as each theorem says.
  Proved: what the program's le, Laid, Encode give. Conditions: as each theorem says.
-/
import Derived.Test.YtifhnpkapgaboaaGreatPj2
import Derived.Shelf.Strings.Builder1
import Derived.WalkKit
import Derived.WalkLawsBesides
import Derived.WalkSpells
import Derived.Test.YtifhnpkapgaboaaGreatPj12
import Derived.Lib.AppendStr
set_option linter.unusedVariables false
set_option linter.unusedSimpArgs false
namespace Go.Proofs.YtifhnpkapgaboaaGreat.build
open Go.RowKit Go.Shelf
theorem sizeB:(Tryz.prog.info? 127).map (·.size) = some 2:=by kernel_rfl
theorem liesB:liesAt Tryz.prog Tryz.prog.depth 127 (2 / Tryz.prog.cellsOf 127) 0 127 1 = true:=by kernel_rfl
theorem infoB:(Tryz.prog.info? 5).map (fun i=>(i.zero,i.size,i.bytes)) = some (some (.int .u8 0),1,1):=by kernel_rfl
set_option maxHeartbeats 1000000 in
set_option maxRecDepth 100000 in
theorem copyCheck_used (b:Nat) (w:World) (h0:w.cell? ⟨b,0,none⟩ = some (.pointer (some ⟨b,0,none⟩))) :
  Calls Tryz.prog 101 #[.pointer (some ⟨b,0,none⟩)] w fun e w'=>e = .returned (.tuple #[]) ∧ w' = w:=by
 obtain ⟨j,hj,_⟩:=Option.map_eq_some_iff.1 sizeB
 go_enter Tryz.func101,Tryz.ntmps101
 go_wp2
 rw [Lib.run_neq_ptr_same w _ Tryz.underlying125 hj]
 go_wp2
 go_end0
 exact ⟨rfl,rfl⟩
set_option maxHeartbeats 1000000 in
set_option maxRecDepth 100000 in
theorem copyCheck_fresh (b:Nat) (w:World) (h0:w.cell? ⟨b,0,none⟩ = some (.pointer none)) (hsh:w.shape? b = some (127,2)) (hfz:w.frozen? ⟨b,0,none⟩ = false) :
  Calls Tryz.prog 101 #[.pointer (some ⟨b,0,none⟩)] w fun e w'=>e = .returned (.tuple #[]) ∧ w' = w.setCell ⟨b,0,none⟩ (.pointer (some ⟨b,0,none⟩)):=by
 obtain ⟨j,hj,hjs⟩:=Option.map_eq_some_iff.1 sizeB
 go_enter Tryz.func101,Tryz.ntmps101
 go_wp2
 rw [Lib.run_to_unsafe w ⟨b,0,none⟩ Tryz.underlying125 Tryz.underlying175 hj (by rw [hjs];decide) hsh (Nat.zero_lt_succ 1)]
 simp only [Result.andThen]
 rw [Oper.upon_value]
 go_wp2
 rw [run_callFunc_extern Tryz.func126 (by kernel_rfl) (by kernel_rfl) (by kernel_rfl) (e:=Extern.AbiNoEscape.same) (by kernel_rfl)]
 rw [Lib.run_noEscape]
 simp only [Result.andThen]
 rw [Oper.upon_value]
 go_wp2
 rw [Lib.run_from_unsafe w ⟨b,0,none⟩ Tryz.underlying175 Tryz.underlying125 hj hsh liesB]
 simp only [Result.andThen]
 rw [Oper.upon_value]
 go_wp2
 go_end0
 exact ⟨rfl,rfl⟩
theorem copyCheck_any (B b:Nat) (bs:List Value) (w:World) (h:Lib.IsBuilder 127 5 B b bs w) :
  Calls Tryz.prog 101 #[.pointer (some ⟨b,0,none⟩)] w fun e w'=>e = .returned (.tuple #[]) ∧ (Lib.BuilderAt 127 5 B b (.pointer (some ⟨b,0,none⟩)) bs w' ∧ Below B w w'):=by
 rcases h with h | h
 ·refine (copyCheck_fresh b w h.cell0 h.shape h.frozen0).mono ?_
  rintro e w' ⟨rfl,rfl⟩
  exact ⟨rfl,h.used _,(Below.refl B w).setCell (p:=⟨b,0,none⟩) h.1 _⟩
 ·refine (copyCheck_used b w h.cell0).mono ?_
  rintro e w' ⟨rfl,rfl⟩
  exact ⟨rfl,h,Below.refl B _⟩
set_option maxHeartbeats 2000000 in
set_option maxRecDepth 100000 in
theorem WriteByte_any (B b:Nat) (bs:List Value) (c:Int) (w:World) (h:Lib.IsBuilder 127 5 B b bs w) (hlen:bs.length + 1 ≤ 140737488355328) (hBw:B ≤ w.heap.size) :
  Calls Tryz.prog 71 #[.pointer (some ⟨b,0,none⟩),.int .u8 c] w fun e w'=>e = .returned .nilIface ∧ (Lib.BuilderAt 127 5 B b (.pointer (some ⟨b,0,none⟩)) (bs ++ [.int .u8 c]) w' ∧ Below B w w'):=by
 obtain ⟨i0,hi,hz0,hz1,hz2⟩:=info_parts infoB
 go_enter Tryz.func71,Tryz.ntmps71
 go_wp2_with (go_at_call 101;refine (copyCheck_any B b bs _ h).mono ?_)
 rintro e w1 ⟨rfl,h1,hb1⟩
 obtain ⟨hB,v,hbk,hown,hne⟩:=h1
 have c0:w1.cell? ⟨b,0,none⟩ = some (.pointer (some ⟨b,0,none⟩)):=by rw [Lib.cell_of_heap hbk];rfl
 have c1:w1.cell? ⟨b,1,none⟩ = some v:=by rw [Lib.cell_of_heap hbk];rfl
 go_wp2_with (at_builtin;refine wpList_append_own _ rfl _ _ 72 rfl B 5 i0 (.int .u8 0) 1 1 Tryz.underlying72 hi hz0 hz1 hz2 rfl (by decide) _ _ _ rfl (hown.alloc _) ⟨w1.heap.size,0,none⟩ 1 1 [.int .u8 c] rfl rfl ?c1 ?c2 ?c3 ?c4 ?c5 ?_)
 case c1 =>
  intro j u hj
  match j,hj with
  | 0,hj=>simp at hj;subst hj;simp [Addr.add]
 case c2=>intro u hu;simp at hu;subst hu;rfl
 case c3=>unfold maxLen;omega
 case c4=>omega
 case c5=>have:=hb1.size;simp;omega
 intro v' w2 hown' hgrow _
 have hlt:b < w1.heap.size:=by
  rcases Nat.lt_or_ge b w1.heap.size with h' | h'
  ·exact h'
  ·simp [Array.getElem?_eq_none h'] at hbk
 have hb2:w2.heap[b]? = some (.cells #[.pointer (some ⟨b,0,none⟩),v] 127 (0,0)):=by
  rw [hgrow.block b (by simp;omega) (fun e=>hne e.symm),Lib.alloc_old w1 _ b hlt]
  exact hbk
 have d0:w2.cell? ⟨b,0,none⟩ = some (.pointer (some ⟨b,0,none⟩)):=by rw [Lib.cell_of_heap hb2];rfl
 have d1:w2.cell? ⟨b,1,none⟩ = some v:=by rw [Lib.cell_of_heap hb2];rfl
 have f1:w2.frozen? ⟨b,1,none⟩ = false:=Lib.frozen_of_heap hb2 1
 obtain ⟨g,cap,rfl⟩:∃ g cap,v' = .slice (some ⟨g,0,none⟩) (bs.length + 1) cap:=by
  rcases hown'.2 with ⟨_,h0⟩ | ⟨g,cap,cur,hv,_⟩
  ·omega
  ·exact ⟨g,cap,hv⟩
 go_wp2
 go_ret
 refine ⟨rfl,?_,?_⟩
 ·exact Lib.BuilderAt.put (T:=127) (e:=5) hB hb2 (bs':=bs ++ [.int .u8 c]) (by simpa using hown') (by decide)
 ·exact ((hb1.alloc (by have:=hb1.size;omega) _).grown hgrow (by have:=hb1.size;simp;omega) (fun k hk=>(hown.lt k hk).1)).setCell (p:=⟨b,1,none⟩) hB _
set_option maxHeartbeats 2000000 in
set_option maxRecDepth 100000 in
theorem WriteString_any (B b:Nat) (bs:List Value) (s:ByteArray) (w:World) (h:Lib.IsBuilder 127 5 B b bs w) (hlen:bs.length + s.size ≤ 140737488355328) (hBw:B ≤ w.heap.size) :
  Calls Tryz.prog 70 #[.pointer (some ⟨b,0,none⟩),.string s] w fun e w'=>e = .returned (.tuple #[.int .i64 s.size,.nilIface]) ∧ (Lib.BuilderAt 127 5 B b (.pointer (some ⟨b,0,none⟩)) (bs ++ Lib.strCells s) w' ∧ Below B w w'):=by
 obtain ⟨i0,hi,hz0,hz1,hz2⟩:=info_parts infoB
 go_enter Tryz.func70,Tryz.ntmps70
 go_wp2_with (go_at_call 101;refine (copyCheck_any B b bs _ h).mono ?_)
 rintro e w1 ⟨rfl,h1,hb1⟩
 obtain ⟨hB,v,hbk,hown,hne⟩:=h1
 have c0:w1.cell? ⟨b,0,none⟩ = some (.pointer (some ⟨b,0,none⟩)):=by rw [Lib.cell_of_heap hbk];rfl
 have c1:w1.cell? ⟨b,1,none⟩ = some v:=by rw [Lib.cell_of_heap hbk];rfl
 go_wp2_with (at_builtin;refine Lib.wpList_append_own_string _ rfl _ _ 72 9 rfl B 5 i0 Tryz.underlying72 Tryz.underlying9 hi hz0 hz1 hz2 _ _ _ rfl hown s rfl ?c3 ?c4 ?c5 ?_)
 case c3=>unfold maxLen;omega
 case c4=>omega
 case c5=>have:=hb1.size;omega
 intro v' w2 hown' hgrow _
 have hlt:b < w1.heap.size:=by
  rcases Nat.lt_or_ge b w1.heap.size with h' | h'
  ·exact h'
  ·simp [Array.getElem?_eq_none h'] at hbk
 have hb2:w2.heap[b]? = some (.cells #[.pointer (some ⟨b,0,none⟩),v] 127 (0,0)):=by
  rw [hgrow.block b hlt (fun e=>hne e.symm)]
  exact hbk
 have d0:w2.cell? ⟨b,0,none⟩ = some (.pointer (some ⟨b,0,none⟩)):=by rw [Lib.cell_of_heap hb2];rfl
 have d1:w2.cell? ⟨b,1,none⟩ = some v:=by rw [Lib.cell_of_heap hb2];rfl
 have f1:w2.frozen? ⟨b,1,none⟩ = false:=Lib.frozen_of_heap hb2 1
 obtain ⟨ao,n',cap,rfl⟩:∃ ao n' cap,v' = .slice ao n' cap:=by
  rcases hown'.2 with ⟨hv,_⟩ | ⟨g,cap,cur,hv,_⟩
  ·exact ⟨_,_,_,hv⟩
  ·exact ⟨_,_,_,hv⟩
 go_wp2
 go_ret2
 refine ⟨rfl,?_,?_⟩
 ·exact Lib.BuilderAt.put (T:=127) (e:=5) hB hb2 (bs':=bs ++ Lib.strCells s) (by simpa [Lib.strCells_length] using hown') (by decide)
 ·exact (hb1.grown hgrow (by have:=hb1.size;omega) (fun k hk=>(hown.lt k hk).1)).setCell (p:=⟨b,1,none⟩) hB _
end Go.Proofs.YtifhnpkapgaboaaGreat.build
namespace Go.Proofs.YtifhnpkapgaboaaGreat.arch
open Go.RowKit
open heap
open path (sv str_size cleanB cleanR belowB)
set_option maxRecDepth 100000
abbrev IsB (b:Nat) (acc:Nm) (w:World):Prop:=Lib.IsBuilder 127 5 b b (Lib.byteCells acc) w
theorem cells_len (acc:Nm):(Lib.byteCells acc).length = acc.length:=by simp [Lib.byteCells]
theorem own_below {w w':World} {B n:Nat} {T:TypeId} {v:Value} {xs:List Value} (h:w.ownsRow B T 1 v n xs) (hb:Below w.heap.size w w'):w'.ownsRow B T 1 v n xs:=by
 obtain ⟨hl,h1 | ⟨g,c,cur,rfl,h2,h3,h4⟩⟩:=h
 ·exact ⟨hl,.inl h1⟩
 ·exact ⟨hl,.inr ⟨g,c,cur,rfl,h2,blk_below h3 hb,h4⟩⟩
theorem IsB.below {b:Nat} {acc:Nm} {w w':World} (h:IsB b acc w) (hb:Below w.heap.size w w'):IsB b acc w':=by
 rcases h with ⟨hB,v,hbk,hown,hne⟩ | ⟨hB,v,hbk,hown,hne⟩
 ·exact .inl ⟨hB,v,blk_below hbk hb,own_below hown hb,hne⟩
 ·exact .inr ⟨hB,v,blk_below hbk hb,own_below hown hb,hne⟩
theorem IsB.lt {b:Nat} {acc:Nm} {w:World} (h:IsB b acc w):b < w.heap.size:=by
 rcases h with ⟨hB,v,hbk,hown,hne⟩ | ⟨hB,v,hbk,hown,hne⟩
 ·exact blk_lt hbk
 ·exact blk_lt hbk
theorem ws_any (b:Nat) (acc l:Nm) (w:World) (h:IsB b acc w) (hlen:acc.length + l.length ≤ 140737488355328) :
  Calls Tryz.prog 70 #[.pointer (some ⟨b,0,none⟩),sv l] w fun e w'=>e = .returned (.tuple #[.int .i64 l.length,.nilIface]) ∧ IsB b (acc ++ l) w' ∧ Below b w w':=by
 refine (build.WriteString_any b b (Lib.byteCells acc) ⟨l.toArray⟩ w h (by rw [cells_len,str_size];omega) (Nat.le_of_lt h.lt)).mono fun e w' h2=>⟨by rw [h2.1,str_size],?_,h2.2.2⟩
 show Lib.IsBuilder _ _ b b (Lib.byteCells (acc ++ l)) w'
 have e1:Lib.byteCells (acc ++ l) = Lib.byteCells acc ++ Lib.strCells ⟨l.toArray⟩:=by
  show _ = Lib.byteCells acc ++ Lib.byteCells l
  simp [Lib.byteCells]
 rw [e1]
 exact .inr h2.2.1
theorem wb_any (b:Nat) (acc:Nm) (c:UInt8) (w:World) (h:IsB b acc w) (hlen:acc.length ≤ 1000000000000) :
  Calls Tryz.prog 71 #[.pointer (some ⟨b,0,none⟩),.int .u8 c.toNat] w fun e w'=>e = .returned .nilIface ∧ IsB b (acc ++ [c]) w' ∧ Below b w w':=by
 refine (build.WriteByte_any b b (Lib.byteCells acc) (c.toNat:Int) w h (by rw [cells_len];omega) (Nat.le_of_lt h.lt)).mono fun e w' h2=>⟨h2.1,?_,h2.2.2⟩
 show Lib.IsBuilder _ _ b b (Lib.byteCells (acc ++ [c])) w'
 have e1:Lib.byteCells (acc ++ [c]) = Lib.byteCells acc ++ [Value.int .u8 c.toNat]:=by simp [Lib.byteCells]
 rw [e1]
 exact .inr h2.2.1
theorem new_builder (w:World):IsB w.heap.size [] (w.alloc (.cells #[.pointer none,.slice none 0 0] 127)):=by
 refine .inl ⟨Nat.le_refl _,.slice none 0 0,heap_alloc_new w _,World.ownsRow_nil _ _ _ _,?_⟩
 simp [Value.ownBlock]
theorem le_one (n:Nat) (h:n < 256):num.leS n 1 = ⟨([UInt8.ofNat n]:Nm).toArray⟩ ∧ num.leE n 1 = 0:=by
 have hg:num.leGood n 1 = true:=(num.leGood_iff n 1).2 ⟨by omega,by omega,by show n < 256 ^ 1;omega⟩
 obtain ⟨h1,h2⟩:=num.le_yes hg
 refine ⟨h1.trans ?_,h2⟩
 have e0:((n:Int) % 256).toNat = n % 256:=by omega
 simp [strOfNums,num.bytesTo,num.byteAt,List.range_succ,e0,ofNat_mod]
theorem le_any (x:Nat) (n:Int) (l:Nm) (w:World) (hx:x < 65536) (h:num.leS x n = ⟨l.toArray⟩ ∧ num.leE x n = 0):Calls Tryz.prog 29 #[.int .i64 x,.int .i64 n] w fun e w'=>e = .returned (sv l) ∧ Below w.heap.size w w':=by
 have HL:=Lib.hid (fun W=>num.Le_any x n W (by unfold num.U64;omega))
 rw [h.1,h.2] at HL
 have hw:IntKind.u64.wrap (x:Int) = (x:Int):=by rw [IntKind.wrap_u64];omega
 clear h
 go_enter Tryz.func29,Tryz.ntmps29
 go_wp2_with fail
 refine (HL.out _).mono ?_;rintro e w1 ⟨rfl,hb⟩
 have HB:=Lib.hid hb
 clear hb HL
 go_wp2_with fail
 go_ret
 exact ⟨rfl,HB.out⟩
theorem le1_any (x:Nat) (w:World) (hx:x < 256):Calls Tryz.prog 29 #[.int .i64 x,.int .i64 1] w fun e w'=>e = .returned (sv [UInt8.ofNat x]) ∧ Below w.heap.size w w':=le_any x 1 _ w (by omega) (le_one x hx)
theorem le2_any (x:Nat) (w:World) (hx:x < 65536):Calls Tryz.prog 29 #[.int .i64 x,.int .i64 2] w fun e w'=>e = .returned (sv (le2 x)) ∧ Below w.heap.size w w':=le_any x 2 _ w hx (le_two x hx)
end Go.Proofs.YtifhnpkapgaboaaGreat.arch
