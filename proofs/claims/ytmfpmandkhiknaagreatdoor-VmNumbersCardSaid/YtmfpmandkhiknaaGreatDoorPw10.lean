/-
  Proved: what numbers of the machine asks of values; a row of values in memory. Conditions: as each theorem says.
-/
import Derived.Test.YtmfpmandkhiknaaGreatDoorPw9
set_option linter.unusedVariables false
set_option linter.unusedSimpArgs false
namespace Go.Proofs.YtmfpmandkhiknaaGreatDoor.vmm
open Go Go.RowKit Ieee
open flt heap
open lex (run_store_float)
set_option maxRecDepth 100000
attribute [local go_sem] run_store_float
abbrev Vs:=List (Val × Nat)
def vC (x:Val × Nat):List Value := [.bool x.1.isT,.string ⟨x.1.text.toArray⟩,.float .f64 x.2]
def vCs (L:Vs):List Value:=L.flatMap vC
def VsOk (L:Vs):Prop:=∀ x ∈ L,NumOk x.1 x.2
theorem vCs_len (L:Vs):(vCs L).length = L.length * 3:=by
 induction L with
 | nil=>rfl
 | cons x L ih =>
  have e:vCs (x :: L) = vC x ++ vCs L:=rfl
  rw [e,List.length_append,ih,List.length_cons]
  show 3 + L.length * 3 = _
  omega
theorem vCs_get:∀ (L:Vs) (j:Nat) (x:Val × Nat),L[j]? = some x → (vCs L)[j * 3]? = some (.bool x.1.isT) ∧ (vCs L)[j * 3 + 1]? = some (.string ⟨x.1.text.toArray⟩) ∧ (vCs L)[j * 3 + 2]? = some (.float .f64 x.2)
 | [],j,x,h=>by simp at h
 | y :: L,0,x,h=>by
  simp at h
  subst h
  exact ⟨rfl,rfl,rfl⟩
 | y :: L,j + 1,x,h=>by
  have ih:=vCs_get L j x (by simpa using h)
  have e:vCs (y :: L) = vC y ++ vCs L:=rfl
  have l3:(vC y).length = 3:=rfl
  rw [e,List.getElem?_append_right (by rw [l3];omega),List.getElem?_append_right (by rw [l3];omega),List.getElem?_append_right (by rw [l3];omega),l3]
  rw [show (j + 1) * 3 - 3 = j * 3 by omega,show (j + 1) * 3 + 1 - 3 = j * 3 + 1 by omega,show (j + 1) * 3 + 2 - 3 = j * 3 + 2 by omega]
  exact ih
def VV (w:World) (v:Value) (L:Vs):Prop:=∃ a cp,v = .slice a L.length cp ∧ L.length ≤ cp ∧ cp ≤ maxLen ∧ ∀ j x,L[j]? = some x → ∃ g off,a = some ⟨g,off,none⟩ ∧ w.cell? ⟨g,off + j * 3,none⟩ = some (.bool x.1.isT) ∧ w.cell? ⟨g,off + j * 3 + 1,none⟩ = some (.string ⟨x.1.text.toArray⟩) ∧ w.cell? ⟨g,off + j * 3 + 2,none⟩ = some (.float .f64 x.2)
theorem VV.below {w w':World} {v:Value} {L:Vs} (h:VV w v L) (hb:Below w.heap.size w w'):VV w' v L:=by
 obtain ⟨a,cp,hv,h1,h2,h3⟩:=h
 refine ⟨a,cp,hv,h1,h2,fun j x hj => ?_⟩
 obtain ⟨g,off,ha,c0,c1,c2⟩:=h3 j x hj
 exact ⟨g,off,ha,by rw [hb.cell (p:=⟨g,off + j * 3,none⟩) (World.block_lt_of_cell? w _ c0)];exact c0,by rw [hb.cell (p:=⟨g,off + j * 3 + 1,none⟩) (World.block_lt_of_cell? w _ c1)];exact c1,by rw [hb.cell (p:=⟨g,off + j * 3 + 2,none⟩) (World.block_lt_of_cell? w _ c2)];exact c2⟩
theorem VV.slice {w:World} {v:Value} {L:Vs} (h:VV w v L):∃ a c,v = .slice a L.length c:=by
 obtain ⟨a,cp,hv,-⟩:=h
 exact ⟨a,cp,hv⟩
theorem VV.at {w:World} {a:Option Addr} {n c j:Nat} {x:Val × Nat} {L:Vs} (h:VV w (.slice a n c) L) (hj:L[j]? = some x):n = L.length ∧ n ≤ c ∧ c ≤ maxLen ∧ ∃ g off,a = some ⟨g,off,none⟩ ∧ g < w.heap.size ∧ w.cell? ⟨g,off + j * 3,none⟩ = some (.bool x.1.isT) ∧ w.cell? ⟨g,off + j * 3 + 1,none⟩ = some (.string ⟨x.1.text.toArray⟩) ∧ w.cell? ⟨g,off + j * 3 + 2,none⟩ = some (.float .f64 x.2):=by
 obtain ⟨a',cp,hv,h1,h2,h3⟩:=h
 cases hv
 obtain ⟨g,off,ha,c0,c1,c2⟩:=h3 j x hj
 exact ⟨rfl,h1,h2,g,off,ha,World.block_lt_of_cell? w _ c0,c0,c1,c2⟩
theorem VV.new {w:World} {g:Nat} {L:Vs} {t:TypeId} (h:w.heap[g]? = some (.cells (vCs L).toArray t (0,0))) (hl:L.length ≤ 1000000):VV w (.slice (some ⟨g,0,none⟩) L.length L.length) L:=by
 refine ⟨_,_,rfl,Nat.le_refl _,by unfold maxLen;omega,fun j x hj => ?_⟩
 obtain ⟨h0,h1,h2⟩:=vCs_get L j x hj
 refine ⟨g,0,rfl,?_,?_,?_⟩ <;> rw [blk_cell h,List.getElem?_toArray,Nat.zero_add] <;> assumption
theorem numbers1_any (b:Bool) (t:List UInt8) (r:Nat) (w:World):Calls Tryz.prog 116 #[vV b t r] w fun e w'=>e = .returned (.bool b) ∧ Below w.heap.size w w':=by
 have HB:Hid (Below w.heap.size w (w.alloc (vO b t r))):=(Below.refl _ _).alloc (Nat.le_refl _) _
 go_enter Tryz.func116,Tryz.ntmps116
 go_wp2_with fail
 go_ret
 exact ⟨rfl,HB.out⟩
set_option maxHeartbeats 1000000 in
theorem index_any (v:Value) (L:Vs) (w:World) (h:VV w v L) (hl:L.length ≤ 1000000):Calls Tryz.prog 154 #[v,.func (.func 116) #[] #[]] w fun e w'=>∃ k:Int,e = .returned (.int .i64 k) ∧ decide (0 ≤ k) = L.any (·.1.isT) ∧ Below w.heap.size w w':=by
 have HV:=Lib.hid h
 obtain ⟨a,c,rfl⟩:=h.slice
 clear h
 go_enter Tryz.func154,Tryz.ntmps154
 go_wp2_with fail
 go_loopg [5,8] L.length (fun kk v5 v8 wr=>∃ i:Nat,v8 = .int .i64 i ∧ i + kk = L.length ∧ Hid (Below w.heap.size w wr ∧ (L.take i).any (·.1.isT) = false))
 case atStart=>exact ⟨0,rfl,by omega,Below.refl _ _,by simp⟩
 case round =>
  obtain ⟨i,rfl,hik,HR⟩:=hrel
  by_cases hlt:i < L.length
  ·cases gk with
   | zero=>omega
   | succ gk =>
   obtain ⟨x,hx⟩:∃ x,L[i]? = some x:=⟨_,List.getElem?_eq_getElem hlt⟩
   obtain ⟨-,hn1,hn2,g,off,rfl,hg,c0,c1,c2⟩:=(HV.out.below HR.out.1).at hx
   unfold maxLen at hn2
   have hI:(i:Int) < (L.length:Int):=by omega
   have HX:=Lib.hid hx
   obtain ⟨⟨ib,tb,nb⟩,rb⟩:=x
   simp only at c0 c1 c2
   clear hx
   cases ib with
   | true =>
    have HN:Hid (decide ((0:Int) ≤ (i:Int)) = L.any (·.1.isT)):=by
     unfold Hid
     rw [decide_eq_true (by omega)]
     symm
     exact List.any_eq_true.2 ⟨_,List.mem_of_getElem? HX.out,rfl⟩
    go_wp2_with (go_at_call 116;refine (numbers1_any _ _ _ _).mono ?_;rintro e w5 ⟨rfl,hb⟩)
    go_ret
    exact ⟨i,rfl,HN.out,HR.out.1.trans (hb.mono HR.out.1.size)⟩
   | false =>
    have HN:Hid ((L.take (i + 1)).any (·.1.isT) = false):=by
     unfold Hid
     rw [List.take_add_one,HX.out,List.any_append,HR.out.2]
     rfl
    go_wp2_with (go_at_call 116;refine (numbers1_any _ _ _ _).mono ?_;rintro e w5 ⟨rfl,hb⟩)
    have HR2:Hid (Below w.heap.size w w5 ∧ (L.take (i + 1)).any (·.1.isT) = false):=⟨HR.out.1.trans (hb.mono HR.out.1.size),HN.out⟩
    go_roundg gk
    case rel=>exact ⟨i + 1,by go_num,by omega,HR2.out⟩
    case measure=>omega
  ·have hik2:i = L.length:=by omega
   have HN:Hid (decide ((0:Int) ≤ -1) = L.any (·.1.isT)):=by
    have:=HR.out.2
    rw [hik2,List.take_length] at this
    unfold Hid
    rw [this]
    rfl
   subst hik2
   go_wp2_with fail
   go_ret
   exact ⟨-1,rfl,HN.out,HR.out.1⟩
theorem contains_any (v:Value) (L:Vs) (w:World) (h:VV w v L) (hl:L.length ≤ 1000000):Calls Tryz.prog 115 #[v,.func (.func 116) #[] #[]] w fun e w'=>e = .returned (.bool (L.any (·.1.isT))) ∧ Below w.heap.size w w':=by
 have HI:=Lib.hid (index_any v L w h hl)
 clear h
 go_enter Tryz.func115,Tryz.ntmps115
 go_wp2_with fail
 refine HI.out.mono ?_;rintro e w2 ⟨k,rfl,hk,hb⟩
 have HK:=Lib.hid (And.intro hk hb)
 clear hk hb
 go_wp2_with fail
 go_ret
 exact ⟨by rw [← HK.out.1];rfl,HK.out.2⟩
theorem numbers_any (v:Value) (L:Vs) (w:World) (h:VV w v L) (hl:L.length ≤ 1000000):Calls Tryz.prog 87 #[v] w fun e w'=>Below w.heap.size w w' ∧ ((L.any (·.1.isT) = false → e = .returned (.tuple #[])) ∧ (L.any (·.1.isT) = true → e = .panicked [{ v:=badV 2201 [],recovered:=false }])):=by
 have HC:=Lib.hid (contains_any v L w h hl)
 clear h
 generalize L.any (·.1.isT) = q at *
 cases q with
 | true =>
  go_enter Tryz.func87,Tryz.ntmps87
  go_wp2_with fail
  refine HC.out.mono ?_;rintro e w2 ⟨rfl,hb⟩
  go_wp2_with fail
  refine (fail_yes _ _).mono ?_;rintro e w3 ⟨rfl,rfl⟩
  exact ⟨rfl,hb,by simp,by simp⟩
 | false =>
  go_enter Tryz.func87,Tryz.ntmps87
  go_wp2_with fail
  refine HC.out.mono ?_;rintro e w2 ⟨rfl,hb⟩
  go_wp2_with fail
  refine (fail_no _ _).mono ?_;rintro e w3 ⟨rfl,rfl⟩
  go_wp2_with fail
  go_end0
  exact ⟨hb,by simp,by simp⟩
end Go.Proofs.YtmfpmandkhiknaaGreatDoor.vmm
