/-
  Proved: what strings.ContainsAny gives for the bytes 47 and 0; what path.Name gives. Conditions: as each theorem says.
  Proved: a law for a range over path.pieces: an iterator that keeps what is left in a captured variable. Conditions: as each theorem says.
-/
import Derived.Test.YtifhnpkapgaboaaGreatPj3
import Derived.Lib.OthersKept
import Derived.Lib.IndexAny
import Derived.RangeFuncNested
import Derived.RangeFuncBound
import Derived.RangeFuncCalls
import Derived.RangeFuncLeaves
import Derived.Shelf.Abstract
import Derived.Shelf.RegionOpen
import Derived.OwnWalkIn
import Derived.TacticsInMore
import Derived.LoopNIn
import Derived.LoopIn
set_option linter.unusedVariables false
set_option linter.unusedSimpArgs false
namespace Go.Proofs.YtifhnpkapgaboaaGreat.path
open Go.RowKit
open heap
abbrev sv (l:List UInt8):Value:=.string ⟨l.toArray⟩
theorem iterAt_heap {w:World} {k:Nat} {s:ByteArray} {p q:Nat} (h:w.heap[k]? = some (.stringIter s p)):(w.iterAt k s q).heap[k]? = some (.stringIter s q):=by
 have:=blk_lt h
 simp [World.iterAt,this]
theorem iterAt_below {w0 w:World} {k:Nat} {s:ByteArray} {q:Nat} (h:Below w0.heap.size w0 w) (hk:w0.heap.size ≤ k):Below w0.heap.size w0 (w.iterAt k s q):=
 ⟨h.os,h.tape,h.output,by simp [World.iterAt];exact h.size,fun i hi=>by
  rw [← h.block i hi]
  show (w.heap.setIfInBounds k _)[i]? = _
  rw [Array.getElem?_setIfInBounds_ne (by omega)]⟩
theorem two_in (x:UInt8):([47,0]:List UInt8).contains x = true ↔ x = 47 ∨ x = 0:=by simp
theorem ix_yes {x:UInt8} (h:x = 47 ∨ x = 0):0 ≤ Lib.indexByte [47,0] x ∧ Lib.indexByte [47,0] x ≤ 1:=by rcases h with rfl | rfl <;> decide
theorem ix_no {x:UInt8} (h:¬ (x = 47 ∨ x = 0)):Lib.indexByte [47,0] x = -1:=by
 rw [not_or] at h
 have h1:((47:UInt8) == x) = false:=by rw [beq_eq_false_iff_ne];exact fun e=>h.1 e.symm
 have h2:((0:UInt8) == x) = false:=by rw [beq_eq_false_iff_ne];exact fun e=>h.2 e.symm
 simp [Lib.indexByte,h1,h2]
set_option maxRecDepth 100000 in
set_option maxHeartbeats 1000000 in
theorem IndexAny_short (s:ByteArray) (w:World) (h8:s.size ≤ 8) :
  Calls Tryz.prog 164 #[.string s,.string ⟨#[47,0]⟩] w fun e w'=>e = .returned (.int .i64 (Lib.indexAny s.data.toList [47,0])) ∧ Below w.heap.size w w':=by
 have d8:decide ((8:Int) < (s.size:Int)) = false:=by simp;omega
 have HU:=Lib.hid (fun W:World=>Tryz.strings_shouldUseASCIISet (s.size:Int) W)
 go_enter Tryz.func164,Tryz.ntmps164
 go_wp2_with fail
 (with_reducible refine (HU.out _).mono ?_);rintro e w1 ⟨rfl,rfl⟩
 rw [d8]
 go_wp2_with fail
 go_loopw [9,10] (fun _ _ wr=>∃ i:Nat,i ≤ s.size ∧ Hid (wr.heap[w1.heap.size]? = some (.stringIter s i) ∧ Below w1.heap.size w1 wr ∧ Lib.NoAny s.data.toList [47,0] i)) (fun _ _ wr=>s.size - wr.iterPos w1.heap.size)
 case atStart=>exact ⟨0,by omega,World.iter_heap _ _ _,(Below.refl _ _).alloc (Nat.le_refl _) _,Lib.NoAny.zero _ _⟩
 case round =>
  obtain ⟨i,hi,HI⟩:=hrel
  obtain ⟨hk,hb,hno⟩:=HI.out
  have HIP:Hid (wr.iterPos w1.heap.size = i):=by rw [Hid,World.iterPos,hk]
  by_cases hlt:i < s.size
  ·have hgl:s.data.toList[i]? = some (s[i]'hlt):=Lib.data_getElem? s i hlt
   have HG:=Lib.hid hgl
   by_cases ha:(s[i]'hlt).toNat < 128
   ·have hnx:=fun ty=>Lib.run_next_ascii_at (P:=Tryz.prog) wr w1.heap.size s i ty hk hlt ha
    have HR:=Lib.hid (fun W:World=>Tryz.strings_IndexRune_ascii ⟨#[47,0]⟩ ((s[i]'hlt).toNat:Int) W (by omega) (by omega))
    have HUX:Hid ((((s[i]'hlt).toNat:Int)).toNat.toUInt8 = s[i]'hlt):=by simp [Hid]
    have HK2:Hid ((wr.iterAt w1.heap.size s (i + 1)).heap[w1.heap.size]? = some (.stringIter s (i + 1))):=iterAt_heap hk
    have HB2:Hid (Below w1.heap.size w1 (wr.iterAt w1.heap.size s (i + 1))):=iterAt_below hb (Nat.le_refl _)
    have HP2:Hid ((wr.iterAt w1.heap.size s (i + 1)).iterPos w1.heap.size = i + 1):=by rw [Hid,World.iterPos,HK2.out]
    have hgx:s[i]'hlt = s[i]'hlt:=rfl
    generalize hx:s[i]'hlt = x at *
    have HX:=Lib.hid hx
    clear hk hb hno hgl hx hgx
    by_cases hin:x = 47 ∨ x = 0
    ·have hI:=ix_yes hin
     have HF:Hid (Lib.indexAny s.data.toList [47,0] = i):=Lib.indexAny_hit HI.out.2.2 HG.out ((two_in x).2 hin)
     generalize hz:Lib.indexByte [47,0] x = z at *
     have HZ:=Lib.hid hz
     clear hin hz
     go_wp2_with fail
     (with_reducible refine (HR.out _).mono ?_);rintro e w3 ⟨rfl,rfl⟩
     rw [HUX.out,HZ.out]
     go_wp2_with fail
     go_ret
     exact ⟨by rw [HF.out];rfl,HB2.out⟩
    ·have HI1:=Lib.hid (ix_no hin)
     have HN:Hid (Lib.NoAny s.data.toList [47,0] (i + 1)):=Lib.NoAny.succ HI.out.2.2 HG.out (by
      cases hc:([47,0]:List UInt8).contains x with
      | false=>rfl
      | true=>exact absurd ((two_in x).1 hc) hin)
     clear hin
     go_wp2_with fail
     (with_reducible refine (HR.out _).mono ?_);rintro e w3 ⟨rfl,rfl⟩
     rw [HUX.out,HI1.out]
     go_wp2_with fail
     go_roundw
     case rel=>exact ⟨i + 1,by omega,HK2.out,HB2.out,HN.out⟩
     case measure=>rw [HP2.out,HIP.out];omega
   ·have hnx:=fun ty=>Lib.run_next_any_at (P:=Tryz.prog) wr w1.heap.size s i ty hk hlt
    obtain ⟨hd1,hd2⟩:=decode_high s i hlt (by omega)
    obtain ⟨hd3,hd4⟩:=decode_wide s i hlt (by omega)
    have HD4:=Lib.hid hd4
    generalize hdec:Utf8.decode s i = d at *
    obtain ⟨r,wd⟩:=d
    simp only at hd1 hd2 hd3 hd4 hnx
    have hend:i + wd ≤ s.size:=by
     obtain ⟨hj,_⟩:=hd4 (wd - 1) (by omega)
     omega
    have HN:Hid (Lib.NoAny s.data.toList [47,0] (i + wd)):=fun j b hj hb=>by
     by_cases hji:j < i
     ·exact hno j b hji hb
     ·obtain ⟨hq,h128⟩:=hd4 (j - i) (by omega)
      have hjs:j < s.size:=by omega
      have e:s[i + (j - i)]'hq = s[j]'hjs:=by congr 1;omega
      rw [e] at h128
      have hbx:s.data.toList[j]? = some (s[j]'hjs):=Lib.data_getElem? s j hjs
      rw [hbx] at hb
      cases hb
      cases hc:([47,0]:List UInt8).contains (s[j]'hjs) with
      | false=>rfl
      | true =>
       rcases (two_in _).1 hc with h | h <;> (rw [h] at h128;exact absurd h128 (by decide))
    have HR:=Lib.hid (fun W:World=>rune_high (r:Int) W (by omega) (by omega))
    have HK2:Hid ((wr.iterAt w1.heap.size s (i + wd)).heap[w1.heap.size]? = some (.stringIter s (i + wd))):=iterAt_heap hk
    have HB2:Hid (Below w1.heap.size w1 (wr.iterAt w1.heap.size s (i + wd))):=iterAt_below hb (Nat.le_refl _)
    clear hk hb hno hgl hd4 hdec HD4
    go_wp2_with fail
    (with_reducible refine (HR.out _).mono ?_);rintro e w3 ⟨rfl,hb3⟩
    have HK3:=Lib.hid (blk_below HK2.out hb3)
    have HB3:Hid (Below w1.heap.size w1 w3):=HB2.out.trans (hb3.mono HB2.out.size)
    have HP3:Hid (w3.iterPos w1.heap.size = i + wd):=by rw [Hid,World.iterPos,HK3.out]
    clear hb3
    go_wp2_with fail
    go_roundw
    case rel=>exact ⟨i + wd,by omega,HK3.out,HB3.out,HN.out⟩
    case measure=>rw [HP3.out,HIP.out];omega
  ·obtain rfl:i = s.size:=by omega
   have hnx:=fun ty=>Lib.run_next_end_at (P:=Tryz.prog) wr w1.heap.size s s.size ty hk (by omega)
   have HF:Hid (Lib.indexAny s.data.toList [47,0] = -1):=Lib.indexAny_none (by rw [← Lib.size_eq];exact hno)
   clear hk hb hno
   go_wp2_with fail
   go_ret
   exact ⟨by rw [HF.out];rfl,HI.out.2.1⟩
theorem IndexAny_all (s:ByteArray) (w:World) (h:s.size ≤ 16) :
  Calls Tryz.prog 164 #[.string s,.string ⟨#[47,0]⟩] w fun e w'=>e = .returned (.int .i64 (Lib.indexAny s.data.toList [47,0])) ∧ Below w.heap.size w w':=by
 by_cases h8:s.size ≤ 8
 ·exact IndexAny_short s w h8
 ·refine (Tryz.strings_IndexAny_long (fun W=>by kernel_rfl) s ⟨#[47,0]⟩ w (by decide) (by omega) (by omega) (by decide) (fun j b hb => ?_)).mono ?_
  ·match j,hb with
   | 0,hb=>cases hb;decide
   | 1,hb=>cases hb;decide
  ·rintro e w' ⟨rfl,rfl⟩
   exact ⟨rfl,((Below.refl _ _).alloc (Nat.le_refl _) _).alloc (by simp) _⟩
theorem any_iff (l:List UInt8):(0 ≤ Lib.indexAny l [47,0]) ↔ ((47:UInt8) ∈ l ∨ (0:UInt8) ∈ l):=by
 induction l with
 | nil=>simp [Lib.indexAny]
 | cons c r ih =>
  have hge:=Lib.indexAny_ge [47,0] r
  unfold Lib.indexAny
  by_cases hc:([47,0]:List UInt8).contains c = true
  ·rw [if_pos hc]
   rcases (two_in c).1 hc with rfl | rfl <;> simp
  ·rw [if_neg hc]
   have hn:¬ (c = 47 ∨ c = 0):=fun h=>hc ((two_in c).2 h)
   rw [not_or] at hn
   have e1:((47:UInt8) ∈ c :: r) ↔ (47:UInt8) ∈ r:=by rw [List.mem_cons];exact ⟨fun h=>h.resolve_left (fun e=>hn.1 e.symm),.inr⟩
   have e2:((0:UInt8) ∈ c :: r) ↔ (0:UInt8) ∈ r:=by rw [List.mem_cons];exact ⟨fun h=>h.resolve_left (fun e=>hn.2 e.symm),.inr⟩
   rw [e1,e2,← ih]
   split
   ·rename_i h;rw [beq_iff_eq] at h;omega
   ·rename_i h;simp at h;omega
set_option maxRecDepth 100000 in
theorem ContainsAny_all (l:List UInt8) (w:World) (h:l.length ≤ 16) :
  Calls Tryz.prog 153 #[sv l,.string ⟨#[47,0]⟩] w fun e w'=>e = .returned (.bool (decide ((47:UInt8) ∈ l ∨ (0:UInt8) ∈ l))) ∧ Below w.heap.size w w':=by
 have HI:=Lib.hid (fun W:World=>IndexAny_all ⟨l.toArray⟩ W (by rw [str_size];exact h))
 have HA:Hid (decide (0 ≤ Lib.indexAny l [47,0]) = decide ((47:UInt8) ∈ l ∨ (0:UInt8) ∈ l)):=by rw [Hid,decide_eq_decide];exact any_iff l
 have hD:(⟨l.toArray⟩:ByteArray).data.toList = l:=by simp
 rw [hD] at HI
 clear h hD
 generalize Lib.indexAny l [47,0] = z at *
 go_enter Tryz.func153,Tryz.ntmps153
 go_wp2_with fail
 (with_reducible refine (HI.out _).mono ?_);rintro e w1 ⟨rfl,hb1⟩
 have HB:=Lib.hid hb1
 clear hb1
 go_wp2
 go_ret
 exact ⟨by rw [← HA.out];rfl,HB.out⟩
set_option maxRecDepth 100000 in
set_option maxHeartbeats 1000000 in
theorem Name_any (l:List UInt8) (w:World) (hs:l.length ≤ 9223372036854775807) :
  Calls Tryz.prog 136 #[sv l] w fun e w'=>e = .returned (.int .i64 (nameE l)) ∧ Below w.heap.size w w':=by
 have z:=str_size l
 by_cases h0:l = []
 ·subst h0
  go_enter Tryz.func136,Tryz.ntmps136
  go_wp2
  go_ret
  exact ⟨rfl,Below.refl _ _⟩
 ·have b0:l.isEmpty = false:=by cases l <;> simp_all
  have b0':(l == []) = false:=by rw [beq_eq_false_iff_ne];exact h0
  by_cases h1:16 < l.length
  ·have HN:Hid (nameE l = 401):=by rw [Hid,nameE,if_neg h0,if_pos (.inl h1)]
   clear h0
   go_enter Tryz.func136,Tryz.ntmps136
   go_wp2
   go_ret
   exact ⟨by rw [HN.out];rfl,Below.refl _ _⟩
  ·by_cases h2:l = [46]
   ·subst h2
    go_enter Tryz.func136,Tryz.ntmps136
    go_wp2
    go_ret
    exact ⟨rfl,Below.refl _ _⟩
   ·by_cases h3:l = [46,46]
    ·subst h3
     go_enter Tryz.func136,Tryz.ntmps136
     go_wp2
     go_ret
     exact ⟨rfl,Below.refl _ _⟩
    ·have b2:(l == [46]) = false:=by rw [beq_eq_false_iff_ne];exact h2
     have b3:(l == [46,46]) = false:=by rw [beq_eq_false_iff_ne];exact h3
     have HC:=Lib.hid (fun W:World=>ContainsAny_all l W (by omega))
     by_cases h4:(47:UInt8) ∈ l ∨ (0:UInt8) ∈ l
     ·have HN:Hid (nameE l = 401):=by rw [Hid,nameE,if_neg h0,if_pos (.inr (.inr (.inr h4)))]
      rw [decide_eq_true h4] at HC
      clear h0 h2 h3 h4
      go_enter Tryz.func136,Tryz.ntmps136
      go_wp2_with fail
      (with_reducible refine (HC.out _).mono ?_);rintro e w1 ⟨rfl,hb1⟩
      go_wp2
      go_ret
      exact ⟨by rw [HN.out];rfl,hb1⟩
     ·have HN:Hid (nameE l = 0):=by rw [Hid,nameE,if_neg h0,if_neg (fun h=>h.elim h1 (fun h=>h.elim h2 (fun h=>h.elim h3 h4)))]
      rw [decide_eq_false h4] at HC
      clear h0 h2 h3 h4
      go_enter Tryz.func136,Tryz.ntmps136
      go_wp2_with fail
      (with_reducible refine (HC.out _).mono ?_);rintro e w1 ⟨rfl,hb1⟩
      go_wp2
      go_ret
      exact ⟨by rw [HN.out];rfl,hb1⟩
end Go.Proofs.YtifhnpkapgaboaaGreat.path
namespace Go.Proofs.YtifhnpkapgaboaaGreat.path
open Go.RowKit Go.Shelf
open heap
attribute [local go_sem] Oper.semAt_some
structure Chg (B c:Nat) (W W':World):Prop where
 os:W'.os = W.os
 tape:W'.tape = W.tape
 output:W'.output = W.output
 size:W.heap.size ≤ W'.heap.size
 low:∀ b,b < B → b ≠ c → b < W.heap.size → W'.heap[b]? = W.heap[b]?
 cells:∀ b o,b ≠ c → W.heap[b]? = some o → o.isCells = true → W'.heap[b]? = some o
theorem Chg.put {B c:Nat} {W:World} {l:Nat} {o:Obj} (o':Obj) (hB:B ≤ l) (hl:W.heap[l]? = some o) (ho:o.isCells = false):Chg B c W (W.putObj l o'):=
 ⟨rfl,rfl,rfl,by simp,fun b hb _ _=>World.putObj_heap_other (by omega),fun b p _ hp hc=>by
  have hne:b ≠ l:=by rintro rfl;rw [hl] at hp;cases hp;rw [ho] at hc;cases hc
  rw [World.putObj_heap_other hne];exact hp⟩
theorem Chg.of_below {B c:Nat} {W W':World} (h:Below W.heap.size W W'):Chg B c W W':=
 ⟨h.os,h.tape,h.output,h.size,fun b _ _ hb=>h.block b hb,fun b o _ ho _=>blk_below ho h⟩
theorem Chg.alloc {B c:Nat} (W:World) (o:Obj):Chg B c W (W.alloc o):=Chg.of_below ((Below.refl _ _).alloc (Nat.le_refl _) _)
theorem Chg.set {B c:Nat} (W:World) (v:Value):Chg B c W (W.setCell ⟨c,0,none⟩ v):=
 ⟨rfl,rfl,rfl,by simp [World.setCell],fun b _ hn _=>Below.heap_setCell _ _ _ _ hn,fun b o hn ho _=>by rw [Below.heap_setCell _ _ _ _ hn];exact ho⟩
theorem Chg.trans {B c:Nat} {X Y Z:World} (h:Chg B c X Y) (k:Chg B c Y Z):Chg B c X Z:=
 ⟨k.os.trans h.os,k.tape.trans h.tape,k.output.trans h.output,Nat.le_trans h.size k.size,fun b hb hn hs=>(k.low b hb hn (Nat.lt_of_lt_of_le hs h.size)).trans (h.low b hb hn hs),fun b o hn ho hc=>k.cells b o hn (h.cells b o hn ho hc) hc⟩
structure Keeps (B c:Nat) (W W':World):Prop where
 size:W.heap.size ≤ W'.heap.size
 other:∀ b o,B ≤ b → W.heap[b]? = some o → o.isCells = false → W'.heap[b]? = some o
 var:W'.heap[c]? = W.heap[c]?
abbrev VarIs (c:Nat) (l:List UInt8) (W:World):Prop:=W.heap[c]? = some (.cells #[sv l] 9 (0,0))
def strAt (c:Nat) (W:World):Nat:=match W.heap[c]? with
 | some (Obj.cells cs _ _)=>match (cs[0]?:Option Value) with
  | some (Value.string s)=>s.size
  | _=>0
 | _=>0
theorem strAt_eq {c:Nat} {l:List UInt8} {W:World} (h:VarIs c l W):strAt c W = l.length:=by
 unfold strAt
 rw [h]
 show (⟨l.toArray⟩:ByteArray).size = _
 exact str_size l
set_option maxRecDepth 100000 in
set_option maxHeartbeats 1000000 in
theorem pieces_in (n:Nat) (l c:Nat) (S:List UInt8) (hS:S.length ≤ 9223372036854775807) (J Jx:List (List UInt8) → World → Prop) (B:Nat)
  (hJ:∀ pre W W',J pre W → Chg B c W W' → (∀ b o,B ≤ b → W.heap[b]? = some o → o.isCells = false → W'.heap[b]? = some o) → J pre W')
  (hY:∀ pre x W,J pre W → (pre ++ [x]) <+: piecesL S → YieldAt Fence.wide (n - 1) Tryz.prog l #[sv x] W fun e W' =>
   (e = .returned (.bool true) ∧ J (pre ++ [x]) W' ∧ W'.heap[c]? = W.heap[c]?) ∨ (e = .returned (.bool false) ∧ Jx (pre ++ [x]) W'))
  (W:World) (hc:VarIs c S W) (h0:J [] W) :
  CallsIn Fence.wide n Tryz.prog 141 #[.func (.yield l) #[] #[],.pointer (some ⟨c,0,none⟩)] W fun e W'=>(∃ v,e = .returned v) ∧
   (J (piecesL S) W' ∨ (∃ pre,pre <+: piecesL S ∧ Jx pre W')):=by
 have HJ:=Lib.hid hJ
 have HY:=Lib.hid hY
 have H0:Hid (J [] W ∧ VarIs c S W):=⟨h0,hc⟩
 clear hJ hY hc h0
 refine callsIn_of_wp Tryz.func141 rfl trivial ?_ rfl
 simp only [Tryz.ntmps141,List.size_toArray,List.length_cons,List.length_nil,Nat.reduceAdd,Nat.reduceSub,Array.replicate_succ,Array.replicate_zero,List.push_toArray,List.append_toArray,List.nil_append,List.cons_append]
 gi_wp2
 gi_loopw [5] (fun _ wr=>∃ (pre:List (List UInt8)) (rest:List UInt8),rest.length ≤ 9223372036854775807 ∧ Hid (piecesL S = pre ++ piecesL rest) ∧ Hid (J pre wr ∧ VarIs c rest wr)) (fun _ wr=>strAt c wr)
 case atStart=>exact ⟨[],S,hS,rfl,H0⟩
 case round =>
  obtain ⟨pre,rest,hrl,HP,HJV⟩:=hrel
  have hv:=HJV.out.2
  have hc0:wr.cell? ⟨c,0,none⟩ = some (sv rest):=by rw [blk_cell hv];rfl
  rcases cut_at rest with hno | ⟨a,b,rfl,hno⟩
  ·have HC:=Lib.hid (fun W=>Cut_no rest W hno hrl)
   have HPP:Hid (piecesL S = pre ++ [rest]):=by rw [Hid,HP.out,pieces_no rest hno]
   clear hno hv
   gi_wp2_with fail
   refine ⟨trivial,(fun h=>by cases h),(callsIn_wide.2 (HC.out _)).mono ?_⟩
   rintro e w1 ⟨rfl,hb1⟩
   have HJ1:Hid (J pre w1):=HJ.out pre _ _ HJV.out.1 (Chg.of_below hb1) (fun b o _ ho _=>blk_below ho hb1)
   obtain ⟨fn,tmps,assign,body,hy,hR⟩:=HY.out pre rest w1 HJ1.out (by rw [HPP.out];exact List.prefix_refl _)
   have HR:=Lib.hid hR
   clear hR hb1
   gi_wp2_with fail
   refine ⟨(fun h=>by cases h),HR.out.mono ?_⟩
   rintro e W3 (⟨rfl,hJ3,_⟩ | ⟨rfl,hJx3⟩)
   ·have HJ3:=Lib.hid hJ3
    clear hJ3 hy
    gi_wp2_with fail
    refine bodyPost_ret (results_none rfl _ _ _) rfl ?_
    exact ⟨⟨_,rfl⟩,.inl (by rw [HPP.out];exact HJ3.out)⟩
   ·have HJ3:=Lib.hid hJx3
    clear hJx3 hy
    gi_wp2_with fail
    refine bodyPost_ret (results_none rfl _ _ _) rfl ?_
    exact ⟨⟨_,rfl⟩,.inr ⟨_,by rw [HPP.out];exact List.prefix_refl _,HJ3.out⟩⟩
  ·have HC:=Lib.hid (fun W=>Cut_yes a b W hno hrl)
   have HPP:Hid (piecesL S = (pre ++ [a]) ++ piecesL b):=by rw [Hid,HP.out,pieces_yes a b hno];simp
   have HM:Hid (strAt c wr = (a ++ 47 :: b).length):=strAt_eq hv
   have hbl:b.length ≤ 9223372036854775807:=by simp at hrl;omega
   have HV:=Lib.hid hv
   clear hno hv
   gi_wp2_with fail
   refine ⟨trivial,(fun h=>by cases h),(callsIn_wide.2 (HC.out _)).mono ?_⟩
   rintro e w1 ⟨rfl,hb1⟩
   have HJ1:Hid (J pre w1):=HJ.out pre _ _ HJV.out.1 (Chg.of_below hb1) (fun b o _ ho _=>blk_below ho hb1)
   have HV1:=Lib.hid (blk_below HV.out hb1)
   obtain ⟨fn,tmps,assign,body,hy,hR⟩:=HY.out pre a w1 HJ1.out (by rw [HPP.out];exact List.prefix_append _ _)
   have HR:=Lib.hid hR
   clear hR hb1 hc0
   gi_wp2_with fail
   refine ⟨(fun h=>by cases h),HR.out.mono ?_⟩
   rintro e W3 (⟨rfl,hJ3,hk3⟩ | ⟨rfl,hJx3⟩)
   ·have hv3:=hk3.trans HV1.out
    have HJ3:=Lib.hid hJ3
    have hc3:W3.cell? ⟨c,0,none⟩ = some (sv (a ++ 47 :: b)):=by rw [blk_cell hv3];rfl
    have hf3:W3.frozen? ⟨c,0,none⟩ = false:=blk_free hv3 0
    have HV4:Hid (VarIs c b (W3.setCell ⟨c,0,none⟩ (sv b))):=blk_set hv3 0 (sv b)
    have HJ4:Hid (J (pre ++ [a]) (W3.setCell ⟨c,0,none⟩ (sv b))):=HJ.out _ _ _ HJ3.out (Chg.set _ _) (fun b o _ ho hno=>by
     have hne:b ≠ c:=by rintro rfl;rw [hv3] at ho;cases ho;cases hno
     rw [Below.heap_setCell _ _ _ _ hne];exact ho)
    have HM4:=Lib.hid (strAt_eq HV4.out)
    clear hJ3 hy hk3 hv3
    gi_wp2_with fail
    go_roundw
    case rel=>exact ⟨pre ++ [a],b,hbl,HPP,HJ4.out,HV4.out⟩
    case measure=>rw [HM.out,HM4.out];simp;omega
   ·have HJ3:=Lib.hid hJx3
    clear hJx3 hy
    gi_wp2_with fail
    refine bodyPost_ret (results_none rfl _ _ _) rfl ?_
    exact ⟨⟨_,rfl⟩,.inr ⟨_,by rw [HPP.out];exact List.prefix_append _ _,HJ3.out⟩⟩
def Post (B c:Nat) (I:List (List UInt8) → World → Prop) (Ix:Code → List (List UInt8) → World → Prop) (xs:List (List UInt8)) (W:World):Exit → Act → World → Prop
 | .normal,_,W'=>Keeps B c W W' ∧ I xs W'
 | .ret,_,W'=>Keeps B c W W' ∧ Ix .ret xs W'
 | .exit id,_,W'=>Keeps B c W W' ∧ Ix (.exit id) xs W'
 | .goto t,_,W'=>Keeps B c W W' ∧ Ix (.goto t) xs W'
 | .panic _,_,_=>False
 | .outgrown,_,_=>False
theorem rangePieces {n:Nat} {g:Operand} {p:Tmp} {assign body:Code} {Q:Exit → Act → World → Prop} {a:Act} {w:World} (c:Nat) (S:List UInt8) (hS:S.length ≤ 9223372036854775807)
  (hg:a.eval g = .func (.func 141) #[] #[.pointer (some ⟨c,0,none⟩)]) (hv:VarIs c S w)
  (I:List (List UInt8) → World → Prop) (Ix:Code → List (List UInt8) → World → Prop) (hI:∀ pre W W',Chg w.heap.size c W W' → I pre W → I pre W') (hIx:∀ k pre W W',Chg w.heap.size c W W' → Ix k pre W → Ix k pre W')
  (h0:I [] w) (a₁:List UInt8 → Act)
  (hassign:∀ (l:Nat) (x:List UInt8) (W:World) (K:Act → World → Prop),K (a₁ x) W →
   assign.wpIn (Fence.wide.inRound l) (n - 1 - 1) Tryz.prog (Exit.then K (fun _ _ _=>False)) { tmps:=a.tmps.setIfInBounds p (sv x),defers := [] } W)
  (hbody:∀ (l:Nat) (pre:List (List UInt8)) (x:List UInt8) (W:World),w.heap.size ≤ W.heap.size → I pre W → (pre ++ [x]) <+: piecesL S → body.wpIn (Fence.wide.inRound l) (n - 1 - 1) Tryz.prog (Post w.heap.size c I Ix (pre ++ [x]) W) (a₁ x) W)
  (hdone:∀ (D:Nat) (W:World),w.heap.size ≤ D → I (piecesL S) W → W.heap[D]? = some (.deferred (some [])) → Q .normal { a with defers:={ target:=.collected D,args := #[] } :: a.defers } W)
  (hstop:∀ (D:Nat) (k:Code) (pre:List (List UInt8)) (W:World),w.heap.size ≤ D → pre <+: piecesL S → Ix k pre W → W.heap[D]? = some (.deferred (some [])) → k.wpIn Fence.wide n Tryz.prog Q { a with defers:={ target:=.collected D,args := #[] } :: a.defers } W) :
  (Code.rangeFunc g #[p] assign body).wpIn Fence.wide n Tryz.prog Q a w:=by
 refine wpIn_rangeFunc ?_
 intro fn hfn
 show ∃ _,_
 have hcl:c < w.heap.size:=blk_lt hv
 obtain ⟨rec,hrec⟩:∃ rec:LoopState → Option Code → Loop,rec = fun st pe => { state:=st,pending:=pe,fn,tmps:=a.tmps,params := #[p],assign,body,defers:=w.heap.size }:=⟨_,rfl⟩
 obtain ⟨W1,hW1⟩:∃ W1,(w.alloc (.deferred (some []))).alloc (.loop (rec .ready none)) = W1:=⟨_,rfl⟩
 have hL1:W1.heap[w.heap.size + 1]? = some (.loop (rec .ready none)):=by
  rw [← hW1];have:=blk_new (w.alloc (.deferred (some []))) (.loop (rec .ready none));rwa [World.size_alloc] at this
 have hD1:W1.heap[w.heap.size]? = some (.deferred (some [])):=by rw [← hW1];exact blk_old (blk_new w _) _
 have hC1:Chg w.heap.size c w W1:=by rw [← hW1];exact (Chg.alloc _ _).trans (Chg.alloc _ _)
 have hV1:VarIs c S W1:=by rw [← hW1];exact blk_old (blk_old hv _) _
 have hI1:I [] W1:=hI _ _ _ hC1 h0
 refine ⟨w.heap.size + 1,[{ target:=.collected w.heap.size,args := #[] }],W1,{ target:=.fn (.func 141) #[.pointer (some ⟨c,0,none⟩)],args := #[.func (.yield (w.heap.size + 1)) #[] #[]] },W1,141,
  #[.func (.yield (w.heap.size + 1)) #[] #[]] ++ #[.pointer (some ⟨c,0,none⟩)],W1,?_,?_,fun _ _=>trivial,?_,(fun h=>by cases h),?_⟩
 ·rw [← hW1,hrec];exact run_enterLoop_outer _ _ _ _ _
 ·simp only [resolve,hg]
  simp [go_sem]
 ·simp [invoke,go_sem,enters_of Tryz.func141 (by kernel_rfl) rfl]
 ·refine (pieces_in (n - 1) (w.heap.size + 1) c S hS
   (fun pre W=>w.heap.size ≤ W.heap.size ∧ I pre W ∧ W.heap[w.heap.size + 1]? = some (.loop (rec .ready none)) ∧ W.heap[w.heap.size]? = some (.deferred (some [])))
   (fun pre W=>∃ k,Ix k pre W ∧ W.heap[w.heap.size + 1]? = some (.loop (rec .done (some k))) ∧ W.heap[w.heap.size]? = some (.deferred (some []))) w.heap.size
   (fun pre W W' h hc ho=>⟨Nat.le_trans h.1 hc.size,hI _ _ _ hc h.2.1,ho _ _ (by omega) h.2.2.1 rfl,ho _ _ (Nat.le_refl _) h.2.2.2 rfl⟩) ?_ W1 hV1 ⟨hC1.size,hI1,hL1,hD1⟩).mono ?_
  ·rintro pre x W ⟨hsz,hi,hl,hk⟩ hpre
   have hlt:w.heap.size + 1 < W.heap.size:=blk_lt hl
   have hy:=run_yield (P:=Tryz.prog) (args := #[sv x]) hl (by rw [hrec];rfl)
   rw [hrec] at hy
   have hy':(Instr.yield (w.heap.size + 1) #[sv x]).run Tryz.prog W = .ok (.round (w.heap.size + 1) fn (a.tmps.setIfInBounds p (sv x)) assign body) W:=by rw [hy];simp
   refine ⟨fn,_,assign,body,hy',roundIn_of_wpIn hfn ?_⟩
   refine hassign (w.heap.size + 1) x W _ ?_
   refine ⟨_,run_beginRound hl (by rw [hrec]),?_⟩
   have hl2:(W.putObj (w.heap.size + 1) (.loop { rec .ready none with state:=.busy })).heap[w.heap.size + 1]? = some (.loop { rec .ready none with state:=.busy }):=World.putObj_heap_same hlt
   have hk2:(W.putObj (w.heap.size + 1) (.loop { rec .ready none with state:=.busy })).heap[w.heap.size]? = some (.deferred (some [])):=(World.putObj_heap_other (by omega)).trans hk
   have hcv:(W.putObj (w.heap.size + 1) (.loop { rec .ready none with state:=.busy })).heap[c]? = W.heap[c]?:=World.putObj_heap_other (by omega)
   refine wpIn_mono (hbody _ pre x _ (by simp;omega) (hI _ _ _ (Chg.put _ (by omega) hl rfl) hi) hpre) ?_
   have fin:∀ (jump:Option Code) (W3:World),Keeps w.heap.size c (W.putObj (w.heap.size + 1) (.loop { rec .ready none with state:=.busy })) W3 →
     (Instr.endRound (w.heap.size + 1) jump).run Tryz.prog W3 = .ok (.bool jump.isNone) (W3.putObj (w.heap.size + 1) (.loop (rec (if jump.isNone then .ready else .done) jump))) ∧
     W3.heap[w.heap.size + 1]? = some (.loop { rec .ready none with state:=.busy }) ∧
     (W3.putObj (w.heap.size + 1) (.loop (rec (if jump.isNone then .ready else .done) jump))).heap[w.heap.size + 1]? = some (.loop (rec (if jump.isNone then .ready else .done) jump)) ∧
     (W3.putObj (w.heap.size + 1) (.loop (rec (if jump.isNone then .ready else .done) jump))).heap[w.heap.size]? = some (.deferred (some [])):=fun jump W3 hk3=>by
    have hl3:=hk3.other _ _ (by omega) hl2 rfl
    have:=run_endRound (P:=Tryz.prog) jump hl3
    rw [hrec] at this ⊢
    exact ⟨this,by rw [hrec] at hl3;exact hl3,World.putObj_heap_same (blk_lt hl3),(World.putObj_heap_other (by omega)).trans (hk3.other _ _ (Nat.le_refl _) hk2 rfl)⟩
   rintro e a3 W3 hp
   cases e with
   | normal =>
    obtain ⟨hk3,hi3⟩:=hp
    obtain ⟨hr,hl3,hl4,hk4⟩:=fin none W3 hk3
    refine ⟨_,_,hr,.inl ⟨rfl,⟨?_,hI _ _ _ (Chg.put _ (by omega) hl3 rfl) hi3,hl4,hk4⟩,?_⟩⟩
    ·have:=hk3.size;simp at this ⊢;omega
    ·rw [World.putObj_heap_other (by omega),hk3.var,hcv]
   | ret =>
    obtain ⟨hk3,hi3⟩:=hp
    obtain ⟨hr,hl3,hl4,hk4⟩:=fin (some .ret) W3 hk3
    exact ⟨_,_,hr,.inr ⟨rfl,.ret,hIx _ _ _ _ (Chg.put _ (by omega) hl3 rfl) hi3,hl4,hk4⟩⟩
   | exit id =>
    obtain ⟨hk3,hi3⟩:=hp
    obtain ⟨hr,hl3,hl4,hk4⟩:=fin (some (.exit id)) W3 hk3
    exact ⟨_,_,hr,.inr ⟨rfl,.exit id,hIx _ _ _ _ (Chg.put _ (by omega) hl3 rfl) hi3,hl4,hk4⟩⟩
   | goto t =>
    obtain ⟨hk3,hi3⟩:=hp
    obtain ⟨hr,hl3,hl4,hk4⟩:=fin (some (.goto t)) W3 hk3
    exact ⟨_,_,hr,.inr ⟨rfl,.goto t,hIx _ _ _ _ (Chg.put _ (by omega) hl3 rfl) hi3,hl4,hk4⟩⟩
   | panic ch=>exact hp.elim
   | outgrown=>exact hp.elim
  ·rintro e W2 ⟨⟨v,rfl⟩,(⟨hsz,hi,hl,hk⟩ | ⟨pre,hpre,k,hi,hl,hk⟩)⟩
   ·exact ⟨none,_,by have:=run_endLoop (P:=Tryz.prog) hl (by rw [hrec];simp);rw [hrec] at this;exact this,hdone _ _ (Nat.le_refl _) (hI _ _ _ (Chg.put _ (by omega) hl rfl) hi) ((World.putObj_heap_other (by omega)).trans hk)⟩
   ·exact ⟨some k,_,by have:=run_endLoop (P:=Tryz.prog) hl (by rw [hrec];simp);rw [hrec] at this;exact this,hstop _ k pre _ (Nat.le_refl _) hpre (hIx _ _ _ _ (Chg.put _ (by omega) hl rfl) hi) ((World.putObj_heap_other (by omega)).trans hk)⟩
end Go.Proofs.YtifhnpkapgaboaaGreat.path
