/-
  Proved: what the document's checker's table of functions: Functions. Conditions: as each theorem says.
  Proved: what the document's checker's small functions do: Find, known, fault. Conditions: as each theorem says.
-/
import Derived.Test.YtmfpmandkhiknaaGreatDoorPw33
set_option linter.unusedVariables false
set_option linter.unusedSimpArgs false
namespace Go.Proofs.YtmfpmandkhiknaaGreatDoor.rck
open Go.RowKit
open heap
open par (Nd KV ndV ndO)
open chk (Nm CS cflt)
open lex (run_store_float)
open many (fnL fnT)
set_option maxRecDepth 100000
attribute [local go_sem] run_store_float
def fnK (i:Nat):Int := [2,3,1,4,5,6,7,8,9,10,11,12,13,14,15,16,17,18,0,0,0,0].getD i 0
def fnA:Array Value:=((List.range 22).flatMap fun i => [Value.string ⟨(fnL.getD i ([],0)).1.toArray⟩,.int .i64 (fnL.getD i ([],0)).2,.int .i64 (fnK i)]).toArray
theorem fnA_at (i:Nat) (z:Nm × Int) (h:fnL[i]? = some z):fnA[i * 3]? = some (.string ⟨z.1.toArray⟩) ∧ fnA[i * 3 + 1]? = some (.int .i64 z.2) ∧ fnA[i * 3 + 2]? = some (.int .i64 (fnK i)):=by
 have hi:i < 22:=(List.getElem?_eq_some_iff.1 h).1
 have hc:i = 0 ∨ i = 1 ∨ i = 2 ∨ i = 3 ∨ i = 4 ∨ i = 5 ∨ i = 6 ∨ i = 7 ∨ i = 8 ∨ i = 9 ∨ i = 10 ∨ i = 11 ∨ i = 12 ∨ i = 13 ∨ i = 14 ∨ i = 15 ∨ i = 16 ∨ i = 17 ∨ i = 18 ∨ i = 19 ∨ i = 20 ∨ i = 21:=by omega
 rcases hc with rfl | rfl | rfl | rfl | rfl | rfl | rfl | rfl | rfl | rfl | rfl | rfl | rfl | rfl | rfl | rfl | rfl | rfl | rfl | rfl | rfl | rfl <;> (cases h;exact ⟨rfl,rfl,rfl⟩)
set_option maxHeartbeats 8000000 in
theorem Functions_any (w:World):Calls Tryz.prog 186 #[] w fun e w'=>e = .returned (.slice (some ⟨w.heap.size,0,none⟩) 22 22) ∧ w'.heap[w.heap.size]? = some (.cells fnA 185 (0,0)) ∧ Below w.heap.size w w':=by
 go_enter Tryz.func186,Tryz.ntmps186
 go_wp2_with fail
 go_ret
 exact ⟨rfl,(blk_new _ _).trans (by kernel_rfl),(Below.refl _ _).alloc (Nat.le_refl _) _⟩
theorem look_hit (t:Nm):∀ (l:List (Nm × Int)) (i:Nat) (z:Nm × Int),(∀ j,j < i → ∀ y,l[j]? = some y → (y.1 == t) = false) → l[i]? = some z → (z.1 == t) = true → (l.find? fun x=>x.1 == t) = some z
 | [],i,z,_,h,_=>by simp at h
 | x :: l,0,z,_,h,hz=>by
  simp at h
  subst h
  rw [List.find?_cons,hz]
 | x :: l,i + 1,z,hn,h,hz=>by
  rw [List.find?_cons,hn 0 (by omega) x rfl]
  exact look_hit t l i z (fun j hj y hy=>hn (j + 1) (by omega) y (by simpa using hy)) (by simpa using h) hz
theorem look_miss (t:Nm) (l:List (Nm × Int)) (hn:∀ j,j < l.length → ∀ y,l[j]? = some y → (y.1 == t) = false):(l.find? fun x=>x.1 == t) = none:=by
 rw [List.find?_eq_none]
 intro y hy
 obtain ⟨j,hj,rfl⟩:=List.getElem_of_mem hy
 rw [hn j hj _ (List.getElem?_eq_getElem hj)]
 exact Bool.false_ne_true
def FindP (t:Nm) (w:World) (e:Ending) (w':World):Prop:=∃ (nm:Nm) (n k:Int),e = .returned (.tuple #[.agg #[.string ⟨nm.toArray⟩,.int .i64 n,.int .i64 k],.bool (fnT t).isSome]) ∧ (∀ m,fnT t = some m → n = m) ∧ Below w.heap.size w w'
theorem res3 {W:World} {b:Nat} {u0 u1 u2:Value} {t:TypeId} (h:W.heap[b]? = some (.cells #[u0,u1,u2] t (0,0))) (x0 x1 x2:Value) :
  (((W.setCell ⟨b,0,none⟩ x0).setCell ⟨b,1,none⟩ x1).setCell ⟨b,2,none⟩ x2).heap[b]? = some (.cells #[x0,x1,x2] t (0,0)):=blk_set (blk_set (blk_set h 0 x0) 1 x1) 2 x2
theorem turned3 (W:World) (b:Nat) (x0 x1 x2:Value):Turned [b] W (((W.setCell ⟨b,0,none⟩ x0).setCell ⟨b,1,none⟩ x1).setCell ⟨b,2,none⟩ x2):=
 (((Turned.refl _ _).setCell (by simp) _).setCell (by simp) _).setCell (by simp) _
set_option maxHeartbeats 1000000 in
theorem Find_any (t:Nm) (w:World):Calls Tryz.prog 153 #[.string ⟨t.toArray⟩] w (FindP t w):=by
 have HF:=Lib.hid (fun W=>Functions_any W)
 go_enter Tryz.func153,Tryz.ntmps153
 go_wp2_with fail
 refine (HF.out _).mono ?_;rintro e w1 ⟨rfl,hg,hb⟩
 have hres:w1.heap[w.heap.size]? = some (.cells #[.string ⟨#[]⟩,.int .i64 0,.int .i64 0] 185 (0,0)):=blk_below (blk_new w _) hb
 have HB:Hid (Below w.heap.size w w1):=((Below.refl _ _).alloc (Nat.le_refl _) _).trans (hb.mono (by simp))
 have HG:=Lib.hid hg
 have r0:=blk_cell (hres) 0
 have r1:=blk_cell (hres) 1
 have r2:=blk_cell (hres) 2
 have rf0:=blk_free (hres) 0
 have rf1:=blk_free (hres) 1
 have rf2:=blk_free (hres) 2
 have rl:=blk_lt (hres)
 simp only [List.getElem?_toArray,List.getElem?_cons_zero,List.getElem?_cons_succ] at r0 r1 r2
 have HRES:=Lib.hid hres
 clear hg hres hb HF
 generalize (w.alloc _).heap.size = gf at *
 go_wp2_with fail
 go_loopg [5] 22 (fun kk v5 wr=>∃ i:Nat,i + kk = 22 ∧ v5 = .int .i64 i ∧ w1 = wr ∧ ∀ j,j < i → ∀ y,fnL[j]? = some y → (y.1 == t) = false)
 case atStart=>exact ⟨0,by omega,rfl,rfl,fun j hj=>by omega⟩
 case round =>
  obtain ⟨i,hik,rfl,rfl,hno⟩:=hrel
  by_cases hlt:i < 22
  ·cases gk with
   | zero=>omega
   | succ gk =>
   obtain ⟨z,hz⟩:∃ z,fnL[i]? = some z:=⟨_,List.getElem?_eq_getElem (by show i < 22;exact hlt)⟩
   obtain ⟨a0,a1,a2⟩:=fnA_at i z hz
   have t0:=blk_cell HG.out (i * 3)
   have t1:=blk_cell HG.out (i * 3 + 1)
   have t2:=blk_cell HG.out (i * 3 + 2)
   rw [a0] at t0
   rw [a1] at t1
   rw [a2] at t2
   clear a0 a1 a2
   have htl:=blk_lt HG.out
   cases hzt:(z.1 == t) with
   | false =>
    have HNO:Hid (∀ j,j < i + 1 → ∀ y,fnL[j]? = some y → (y.1 == t) = false):=by
     intro j hj y hy
     by_cases e:j = i
     ·subst e;rw [hz] at hy;cases hy;exact hzt
     ·exact hno j (by omega) y hy
    clear hno hz
    go_wp2_with fail
    go_roundg gk
    case rel=>exact ⟨i + 1,by omega,by go_num,rfl,HNO.out⟩
    case measure=>omega
   | true =>
    have hft:fnT t = some z.2:=by
     unfold fnT
     rw [look_hit t fnL i z hno hz hzt];rfl
    have HFT:=Lib.hid hft
    clear hno hz hft
    go_wp2_with fail
    have h3:=res3 HRES.out (.string ⟨z.1.toArray⟩) (.int .i64 z.2) (.int .i64 (fnK i))
    have ht:=turned3 w1 w.heap.size (.string ⟨z.1.toArray⟩) (.int .i64 z.2) (.int .i64 (fnK i))
    generalize (((w1.setCell _ _).setCell _ _).setCell _ _) = wf at h3 ht ⊢
    clear r0 r1 r2 rf0 rf1 rf2 rl
    have z0:=blk_cell (h3) 0
    have z1:=blk_cell (h3) 1
    have z2:=blk_cell (h3) 2
    have zf0:=blk_free (h3) 0
    have zf1:=blk_free (h3) 1
    have zf2:=blk_free (h3) 2
    have zl:=blk_lt (h3)
    simp only [List.getElem?_toArray,List.getElem?_cons_zero,List.getElem?_cons_succ] at z0 z1 z2
    clear h3
    refine bodyPost_ret (v:=.tuple #[.agg #[.string ⟨z.1.toArray⟩,.int .i64 z.2,.int .i64 (fnK i)],.bool true]) (by simp [results,Tryz.results153,go_sem,z0,z1,z2]) rfl ?_
    exact ⟨z.1,z.2,fnK i,by rw [HFT.out];rfl,fun m hm=>by rw [HFT.out] at hm;exact Option.some.inj hm,HB.out.trans (ht.below HB.out.size (by simp))⟩
  ·have hik2:i = 22:=by omega
   subst hik2
   have hft:fnT t = none:=by
    unfold fnT
    rw [look_miss t fnL hno];rfl
   have HFT:=Lib.hid hft
   clear hno hft
   go_wp2_with fail
   have h3:=res3 HRES.out (.string ⟨#[]⟩) (.int .i64 0) (.int .i64 0)
   have ht:=turned3 w1 w.heap.size (.string ⟨#[]⟩) (.int .i64 0) (.int .i64 0)
   generalize (((w1.setCell _ _).setCell _ _).setCell _ _) = wf at h3 ht ⊢
   clear r0 r1 r2 rf0 rf1 rf2 rl
   have z0:=blk_cell (h3) 0
   have z1:=blk_cell (h3) 1
   have z2:=blk_cell (h3) 2
   have zf0:=blk_free (h3) 0
   have zf1:=blk_free (h3) 1
   have zf2:=blk_free (h3) 2
   have zl:=blk_lt (h3)
   simp only [List.getElem?_toArray,List.getElem?_cons_zero,List.getElem?_cons_succ] at z0 z1 z2
   clear h3
   refine bodyPost_ret (v:=.tuple #[.agg #[.string ⟨#[]⟩,.int .i64 0,.int .i64 0],.bool false]) (by simp [results,Tryz.results153,go_sem,z0,z1,z2]) rfl ?_
   exact ⟨[],0,0,by rw [HFT.out];rfl,fun m hm=>(by rw [HFT.out] at hm;cases hm),HB.out.trans (ht.below HB.out.size (by simp))⟩
abbrev PP (q:Nat):Value:=.pointer (some ⟨q,0,none⟩)
structure Chg (q:Nat) (v:Value) (w w':World) (v':Value):Prop where
 t:Turned (q :: v.ownBlock.toList) w w'
 own:v'.ownBlock = v.ownBlock ∨ ∀ g ∈ v'.ownBlock.toList,w.heap.size ≤ g
theorem Chg.refl (q:Nat) (v:Value) (w:World):Chg q v w w v:=⟨Turned.refl _ _,.inl rfl⟩
theorem Chg.ext {q:Nat} {v:Value} {w w':World} (h:Below w.heap.size w w'):Chg q v w w' v:=⟨Turned.of_below h,.inl rfl⟩
theorem Chg.trans {q:Nat} {v v' v'':Value} {w w' w'':World} (h:Chg q v w w' v') (k:Chg q v' w' w'' v''):Chg q v w w'' v'':=by
 refine ⟨⟨k.t.os.trans h.t.os,k.t.tape.trans h.t.tape,k.t.output.trans h.t.output,Nat.le_trans h.t.size k.t.size,fun b hb hn => ?_⟩,?_⟩
 ·rw [k.t.block b (Nat.lt_of_lt_of_le hb h.t.size) (fun hm => ?_),h.t.block b hb hn]
  rcases List.mem_cons.1 hm with e | hm
  ·exact hn (e ▸ List.mem_cons_self ..)
  ·rcases h.own with e | e
   ·rw [e] at hm;exact hn (List.mem_cons_of_mem _ hm)
   ·have:=e b hm;omega
 ·rcases k.own with e | e
  ·rcases h.own with e2 | e2
   ·exact .inl (e.trans e2)
   ·exact .inr (by rw [e];exact e2)
  ·exact .inr (fun g hg=>Nat.le_trans h.t.size (e g hg))
end Go.Proofs.YtmfpmandkhiknaaGreatDoor.rck
