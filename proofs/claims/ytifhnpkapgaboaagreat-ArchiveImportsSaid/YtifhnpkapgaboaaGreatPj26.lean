/-
  Proved: what the program's reader's entry does over a field. Conditions: as each theorem says.
  Proved: oriellaw13.awake returns true. Conditions: as each theorem says.
-/
import Derived.Test.YtifhnpkapgaboaaGreatPj24
import Derived.Test.YtifhnpkapgaboaaGreatPj25
set_option linter.unusedVariables false
set_option linter.unusedSimpArgs false
namespace Go.Proofs.YtifhnpkapgaboaaGreat.arch
open Go.RowKit
open heap
open path (sv str_size cleanB cleanR belowB)
open fld (Fld FldP applyF)
set_option maxRecDepth 100000
structure Grd (q f mn kn B:Nat):Prop where
 lq:q < B
 lf:f < B
 lm:mn < B
 lk:kn < B
 qf:q ≠ f
 qm:q ≠ mn
 qk:q ≠ kn
theorem Grd.of {w:World} {q f mn kn:Nat} {s:Nm} {a:Nat} {F:Fld} (hq:w.heap[q]? = some (RdO s a)) (h:FldP w f mn kn F):Grd q f mn kn w.heap.size:=
 ⟨blk_lt hq,blk_lt h.blk,h.nodes.lt,h.kids.lt,(fun e=>by
  have h1:=h.blk
  rw [← e,hq] at h1
  simp at h1),(fun e=>by
  obtain ⟨es,c,h1,-⟩:=h.nodes
  rw [← e,hq] at h1
  cases h1),(fun e=>by
  obtain ⟨es,c,h1,-⟩:=h.kids
  rw [← e,hq] at h1
  cases h1)⟩
structure EJ (w:World) (q f mn kn:Nat) (s:Nm) (a:Nat) (p:Nm) (k m:Int) (d:Nm) (F:Fld) (W:World):Prop where
 rd:W.heap[q]? = some (RdO s a)
 eb:W.heap[w.heap.size + 1]? = some (.cells #[.string ⟨p.toArray⟩,.int .i64 k,.int .i64 m,.string ⟨d.toArray⟩] 58 (0,0))
 rb:W.heap[w.heap.size]? = some (.cells #[.string ⟨#[]⟩,.int .i64 0,.int .i64 0,.string ⟨#[]⟩] 58 (0,0))
 tur:Turned [q,mn,kn] w W
 fld:FldP W f mn kn F
 G:Grd q f mn kn w.heap.size
theorem EJ.turn {w W W':World} {q f mn kn a a':Nat} {s p d:Nm} {k m:Int} {F:Fld} (h:EJ w q f mn kn s a p k m d F W) (hq:W'.heap[q]? = some (RdO s a')) (ht:Turned [q] W W'):EJ w q f mn kn s a' p k m d F W':=
 ⟨hq,ht.kept h.eb (by have:=h.G.lq;simp;omega),ht.kept h.rb (by have:=h.G.lq;simp;omega),h.tur.trans (ht.mono (by simp)),h.fld.turned ht (by simp;exact fun e=>h.G.qf e.symm) (by simp;exact fun e=>h.G.qm e.symm) (by simp;exact fun e=>h.G.qk e.symm),h.G⟩
theorem EJ.below {w W W':World} {q f mn kn a:Nat} {s p d:Nm} {k m:Int} {F:Fld} (h:EJ w q f mn kn s a p k m d F W) (hb:Below W.heap.size W W'):EJ w q f mn kn s a p k m d F W':=h.turn (blk_below h.rd hb) (Turned.of_below hb)
theorem EJ.app {w W W':World} {q f mn kn a:Nat} {s p d:Nm} {k m:Int} {F F':Fld} (h:EJ w q f mn kn s a p k m d F W) (hf:FldP W' f mn kn F') (ht:Turned [mn,kn] W W'):EJ w q f mn kn s a p k m d F' W':=by
 have h1:=h.G
 exact ⟨ht.kept h.rd (by simp;exact ⟨h1.qm,h1.qk⟩),ht.kept h.eb (by have:=h1.lm;have:=h1.lk;simp;omega),ht.kept h.rb (by have:=h1.lm;have:=h1.lk;simp;omega),h.tur.trans (ht.mono (by simp)),hf,h1⟩
theorem EJ.setT {w W:World} {q f mn kn a:Nat} {s p d:Nm} {k m:Int} {F:Fld} (h:EJ w q f mn kn s a p k m d F W) (i:Nat) (v:Value) (cs:Array Value) (hc:(#[.string ⟨p.toArray⟩,.int .i64 k,.int .i64 m,.string ⟨d.toArray⟩]:Array Value).setIfInBounds i v = cs) :
  (W.setCell ⟨w.heap.size + 1,i,none⟩ v).heap[q]? = some (RdO s a) ∧ (W.setCell ⟨w.heap.size + 1,i,none⟩ v).heap[w.heap.size + 1]? = some (.cells cs 58 (0,0)) ∧
   (W.setCell ⟨w.heap.size + 1,i,none⟩ v).heap[w.heap.size]? = some (.cells #[.string ⟨#[]⟩,.int .i64 0,.int .i64 0,.string ⟨#[]⟩] 58 (0,0)) ∧ Turned [q,mn,kn] w (W.setCell ⟨w.heap.size + 1,i,none⟩ v) ∧ FldP (W.setCell ⟨w.heap.size + 1,i,none⟩ v) f mn kn F:=by
 have hql:=h.G.lq
 refine ⟨(blk_other (by omega) i v).trans h.rd,?_,(blk_other (by omega) i v).trans h.rb,tur_set h.tur (by simp) v,h.fld.turned ((Turned.refl [w.heap.size + 1] W).setCell (by simp) v) ?_ ?_ ?_⟩
 ·rw [← hc];exact blk_set h.eb i v
 ·have:=h.G.lf;simp;omega
 ·have:=h.G.lm;simp;omega
 ·have:=h.G.lk;simp;omega
theorem EJ.path {w W:World} {q f mn kn a:Nat} {s p d p':Nm} {k m:Int} {F:Fld} (h:EJ w q f mn kn s a p k m d F W):EJ w q f mn kn s a p' k m d F (W.setCell ⟨w.heap.size + 1,0,none⟩ (sv p')):=by
 obtain ⟨h1,h2,h3,h4,h5⟩:=h.setT 0 (sv p') #[sv p',.int .i64 k,.int .i64 m,.string ⟨d.toArray⟩] rfl
 exact ⟨h1,h2,h3,h4,h5,h.G⟩
theorem EJ.mode {w W:World} {q f mn kn a:Nat} {s p d:Nm} {k m m':Int} {F:Fld} (h:EJ w q f mn kn s a p k m d F W):EJ w q f mn kn s a p k m' d F (W.setCell ⟨w.heap.size + 1,2,none⟩ (.int .i64 m')):=by
 obtain ⟨h1,h2,h3,h4,h5⟩:=h.setT 2 (.int .i64 m') #[.string ⟨p.toArray⟩,.int .i64 k,.int .i64 m',.string ⟨d.toArray⟩] rfl
 exact ⟨h1,h2,h3,h4,h5,h.G⟩
theorem EJ.data {w W:World} {q f mn kn a:Nat} {s p d d':Nm} {k m:Int} {F:Fld} (h:EJ w q f mn kn s a p k m d F W):EJ w q f mn kn s a p k m d' F (W.setCell ⟨w.heap.size + 1,3,none⟩ (sv d')):=by
 obtain ⟨h1,h2,h3,h4,h5⟩:=h.setT 3 (sv d') #[.string ⟨p.toArray⟩,.int .i64 k,.int .i64 m,sv d'] rfl
 exact ⟨h1,h2,h3,h4,h5,h.G⟩
def RdG (q f mn kn:Nat) (s:Nm) (r:Except Flt ((Ent × Fld) × Nat)) (w:World) (e:Ending) (w':World):Prop:=match r with
 | .error p=>e = .panicked [{ v:=wrongV p.1 p.2,recovered:=false }] ∧ Turned [q,mn,kn] w w'
 | .ok ((x,F),b)=>e = .returned (entV x) ∧ w'.heap[q]? = some (RdO s b) ∧ FldP w' f mn kn F ∧ Turned [q,mn,kn] w w'
set_option maxHeartbeats 8000000 in
theorem entryG_any (q f mn kn:Nat) (F:Fld) (s:Nm) (a:Nat) (k fr:Int) (es:List Ent) (A:Option Addr) (b o c:Nat) (w:World) (hrd:w.heap[q]? = some (RdO s a)) (hfl:FldP w f mn kn F) (ha:a ≤ s.length) (hs:s.length ≤ 65536) (hE:EAt w b o es) (hbq:es ≠ [] → b ∉ [q,mn,kn]) (hA:es ≠ [] → A = some ⟨b,o,none⟩)
  (hc:es.length ≤ c) (hcm:c ≤ 9223372036854775807) (hp:∀ x ∈ es,x.path.length ≤ 2000000) :
  Calls Tryz.prog 84 #[PP q,.int .i64 k,.int .i64 fr,.slice A es.length c,PP f] w (RdG q f mn kn s (entG s k a es F) w):=by
 have hG:=Grd.of hrd hfl
 have hql:=hG.lq
 have HI0:Hid (EJ w q f mn kn s a [] k 0 [] F ((w.alloc (.cells #[.string ⟨#[]⟩,.int .i64 0,.int .i64 0,.string ⟨#[]⟩] 58 (0,0))).alloc (.cells #[.string ⟨#[]⟩,.int .i64 k,.int .i64 0,.string ⟨#[]⟩] 58 (0,0)))):=by
  have e1:(w.alloc (.cells #[.string ⟨#[]⟩,.int .i64 0,.int .i64 0,.string ⟨#[]⟩] 58 (0,0))).heap.size = w.heap.size + 1:=by simp
  have h2:=blk_new (w.alloc (.cells #[.string ⟨#[]⟩,.int .i64 0,.int .i64 0,.string ⟨#[]⟩] 58 (0,0))) (.cells #[.string ⟨#[]⟩,.int .i64 k,.int .i64 0,.string ⟨#[]⟩] 58 (0,0))
  rw [e1] at h2
  exact ⟨blk_old (blk_old hrd _) _,h2,blk_old (blk_new _ _) _,((Turned.refl _ _).alloc _).alloc _,hfl.turned (((Turned.refl [] w).alloc _).alloc _) (by simp) (by simp) (by simp),hG⟩
 have HPA:=Lib.hid (fun (p:Nm) W (hW:Turned [q,mn,kn] w W) (hpl:p.length ≤ 2000000)=>pathed_any es ⟨p,k,0,[]⟩ A b o c W hA (by
  by_cases h0:es = []
  ·rw [h0];exact EAt.nil _ _ _
  ·exact hE.turned hW (hbq h0)) hc hcm hp hpl)
 clear hrd hE hbq hA hp hfl
 obtain ⟨R,hR⟩:∃ R,entG s k a es F = R:=⟨_,rfl⟩
 rw [hR]
 have HD:=Lib.hid hR
 clear hR
 unfold entG at HD
 have hn255:=(s.getD a 0).toNat_lt
 have hnv:numV s a 1 = (s.getD a 0).toNat:=rfl
 generalize (s.getD a 0).toNat = n at *
 go_enter Tryz.func84,Tryz.ntmps84
 go_upto_region 2 with fail
 change Code.wp _ _ _ _ ((w.alloc (.cells #[.string ⟨#[]⟩,.int .i64 0,.int .i64 0,.string ⟨#[]⟩] 58 (0,0))).alloc (.cells #[.string ⟨#[]⟩,.int .i64 k,.int .i64 0,.string ⟨#[]⟩] 58 (0,0)))
 generalize ((w.alloc (.cells #[.string ⟨#[]⟩,.int .i64 0,.int .i64 0,.string ⟨#[]⟩] 58 (0,0))).alloc (.cells #[.string ⟨#[]⟩,.int .i64 k,.int .i64 0,.string ⟨#[]⟩] 58 (0,0))) = W0 at *
 have rc1:=blk_cell HI0.out.rd 1
 have e0:=blk_cell HI0.out.eb 0
 have e1:=blk_cell HI0.out.eb 1
 have e2:=blk_cell HI0.out.eb 2
 have e3:=blk_cell HI0.out.eb 3
 have g0:=blk_free HI0.out.eb 0
 have g2:=blk_free HI0.out.eb 2
 have g3:=blk_free HI0.out.eb 3
 have el:=blk_lt HI0.out.eb
 simp only [List.getElem?_toArray,List.getElem?_cons_zero,List.getElem?_cons_succ] at rc1 e0 e1 e2 e3
 by_cases h1:s.length < a + 1
 ·rw [if_pos h1] at HD
  have HN:=Lib.hid (number_any q s a 1 W0 HI0.out.rd ha (by omega) (.inl rfl))
  rw [show numD s a 1 = .error (s.length,1300) from if_pos h1] at HN
  clear h1 hnv
  go_wp2_with fail
  refine HN.out.mono ?_;rintro e w1 ⟨rfl,ht⟩
  exact ⟨rfl,by rw [← HD.out];exact ⟨rfl,HI0.out.tur.trans (ht.mono (by simp))⟩⟩
 rw [if_neg h1] at HD
 have HN:=Lib.hid (number_any q s a 1 W0 HI0.out.rd ha (by omega) (.inl rfl))
 rw [show numD s a 1 = .ok (numV s a 1,a + 1) from if_neg h1,hnv] at HN
 have h1':a + 1 ≤ s.length:=by omega
 clear h1 hnv
 go_wp2_with fail
 refine HN.out.mono ?_;rintro e w1 ⟨rfl,hq,ht⟩
 have HI1:=Lib.hid (HI0.out.turn hq ht)
 clear rc1 e0 e1 e2 e3 g0 g2 g3 el
 clear hq ht HN HI0
 by_cases h2:n = 0 ∨ 140 < n
 ·rw [if_pos h2] at HD
  by_cases h20:n = 0
  ·have hb0:((n:Int) == 0) = true:=by rw [beq_iff_eq];omega
   clear h2 h20
   go_wp2_with fail
   refine (fail_yes a 1303 _).mono ?_;rintro e w' ⟨rfl,rfl⟩
   exact ⟨rfl,by rw [← HD.out];exact ⟨rfl,HI1.out.tur⟩⟩
  ·have hb0:((n:Int) == 0) = false:=by rw [beq_eq_false_iff_ne];omega
   have hb1:decide ((140:Int) < (n:Int)) = true:=decide_eq_true (by omega)
   clear h2 h20
   go_wp2_with fail
   refine (fail_yes a 1303 _).mono ?_;rintro e w' ⟨rfl,rfl⟩
   exact ⟨rfl,by rw [← HD.out];exact ⟨rfl,HI1.out.tur⟩⟩
 rw [if_neg h2] at HD
 have hb0:((n:Int) == 0) = false:=by rw [beq_eq_false_iff_ne];omega
 have hb1:decide ((140:Int) < (n:Int)) = false:=decide_eq_false (by omega)
 have hn140:n ≤ 140:=by omega
 clear h2
 go_wp2_with fail
 refine (fail_no a 1303 _).mono ?_;rintro e w' ⟨rfl,rfl⟩
 clear hb0 hb1
 by_cases h3:s.length < a + 1 + n
 ·rw [if_pos h3] at HD
  have HN:=Lib.hid (take_any q s (a + 1) n w1 HI1.out.rd h1' (by omega) (by omega))
  rw [show takeD s (a + 1) n = .error (s.length,1300) from if_pos h3] at HN
  clear h3
  go_wp2_with fail
  refine HN.out.mono ?_;rintro e w2 ⟨rfl,ht⟩
  exact ⟨rfl,by rw [← HD.out];exact ⟨rfl,HI1.out.tur.trans (ht.mono (by simp))⟩⟩
 rw [if_neg h3] at HD
 have HN:=Lib.hid (take_any q s (a + 1) n w1 HI1.out.rd h1' (by omega) (by omega))
 rw [show takeD s (a + 1) n = .ok (sub s (a + 1) n,a + 1 + n) from if_neg h3] at HN
 have h3':a + 1 + n ≤ s.length:=by omega
 have hpl:(sub s (a + 1) n).length ≤ 140:=by unfold sub;rw [List.length_take];omega
 generalize sub s (a + 1) n = p at *
 generalize ha2:a + 1 + n = a2 at *
 clear h3 ha2
 go_wp2_with fail
 refine HN.out.mono ?_;rintro e w2 ⟨rfl,hq,ht⟩
 have HI2:=Lib.hid (HI1.out.turn hq ht)
 clear hq ht HN HI1
 have rc1:=blk_cell HI2.out.rd 1
 have e0:=blk_cell HI2.out.eb 0
 have e1:=blk_cell HI2.out.eb 1
 have e2:=blk_cell HI2.out.eb 2
 have e3:=blk_cell HI2.out.eb 3
 have g0:=blk_free HI2.out.eb 0
 have g2:=blk_free HI2.out.eb 2
 have g3:=blk_free HI2.out.eb 3
 have el:=blk_lt HI2.out.eb
 simp only [List.getElem?_toArray,List.getElem?_cons_zero,List.getElem?_cons_succ] at rc1 e0 e1 e2 e3
 have HI3:=Lib.hid (HI2.out.path (p':=p))
 go_upto_region 6 with fail
 change Code.wp _ _ _ _ (w2.setCell ⟨w.heap.size + 1,0,none⟩ (sv p))
 generalize (w2.setCell ⟨w.heap.size + 1,0,none⟩ (sv p)) = W3 at *
 clear rc1 e0 e1 e2 e3 g0 g2 g3 el
 clear HI2
 have rc1:=blk_cell HI3.out.rd 1
 have e0:=blk_cell HI3.out.eb 0
 have e1:=blk_cell HI3.out.eb 1
 have e2:=blk_cell HI3.out.eb 2
 have e3:=blk_cell HI3.out.eb 3
 have g0:=blk_free HI3.out.eb 0
 have g2:=blk_free HI3.out.eb 2
 have g3:=blk_free HI3.out.eb 3
 have el:=blk_lt HI3.out.eb
 simp only [List.getElem?_toArray,List.getElem?_cons_zero,List.getElem?_cons_succ] at rc1 e0 e1 e2 e3
 have HPC:=Lib.hid (HPA.out p W3 HI3.out.tur (by omega))
 clear HPA
 generalize pathE es ⟨p,k,0,[]⟩ = pc at *
 go_wp2_with fail
 refine HPC.out.mono ?_;rintro e w4 ⟨rfl,hb⟩
 have HI4:=Lib.hid (HI3.out.below hb)
 clear rc1 e0 e1 e2 e3 g0 g2 g3 el
 clear hb HPC HI3
 by_cases h4:pc ≠ 0
 ·rw [if_pos h4] at HD
  have hb4:(pc != 0) = true:=by simp [bne,h4]
  clear h4
  go_wp2_with fail
  refine (fail_yes a pc _).mono ?_;rintro e w' ⟨rfl,rfl⟩
  exact ⟨rfl,by rw [← HD.out];exact ⟨rfl,HI4.out.tur⟩⟩
 rw [if_neg h4] at HD
 have hb4:(pc != 0) = false:=by simpa [bne] using h4
 clear h4
 have rc1:=blk_cell HI4.out.rd 1
 have e0:=blk_cell HI4.out.eb 0
 have e1:=blk_cell HI4.out.eb 1
 have e2:=blk_cell HI4.out.eb 2
 have e3:=blk_cell HI4.out.eb 3
 have g0:=blk_free HI4.out.eb 0
 have g2:=blk_free HI4.out.eb 2
 have g3:=blk_free HI4.out.eb 3
 have el:=blk_lt HI4.out.eb
 simp only [List.getElem?_toArray,List.getElem?_cons_zero,List.getElem?_cons_succ] at rc1 e0 e1 e2 e3
 have HAP:=Lib.hid (fld.Apply_any w4 f mn kn F ⟨p,k,0,[]⟩ HI4.out.fld (by show p.length ≤ _;omega))
 cases hap:applyF F ⟨p,k,0,[]⟩ with
 | none =>
  rw [hap] at HD HAP
  go_wp2_with fail
  refine HAP.out.mono ?_;rintro e w5 ⟨rfl,hf5,ht5⟩
  have HI5:=Lib.hid (HI4.out.app hf5 ht5)
  clear rc1 e0 e1 e2 e3 g0 g2 g3 el
  clear hf5 ht5 HAP HI4 hap
  go_wp2_with fail
  refine (fail_yes a 1305 _).mono ?_;rintro e w' ⟨rfl,rfl⟩
  exact ⟨rfl,by rw [← HD.out];exact ⟨rfl,HI5.out.tur⟩⟩
 | some F5 =>
 rw [hap] at HD HAP
 simp only at HD
 clear hap
 go_wp2_with fail
 refine HAP.out.mono ?_;rintro e w4b ⟨rfl,hf5,ht5⟩
 have HI4b:=Lib.hid (HI4.out.app hf5 ht5)
 clear rc1 e0 e1 e2 e3 g0 g2 g3 el
 clear hf5 ht5 HAP HI4 hb4
 obtain ⟨HI4,rfl⟩:∃ H,H = HI4b:=⟨_,rfl⟩
 generalize F5 = F at *
 generalize w4b = w4 at *
 go_wp2_with fail
 refine (fail_no a 1305 _).mono ?_;rintro e w' ⟨rfl,rfl⟩
 have rc1:=blk_cell HI4.out.rd 1
 have e0:=blk_cell HI4.out.eb 0
 have e1:=blk_cell HI4.out.eb 1
 have e2:=blk_cell HI4.out.eb 2
 have e3:=blk_cell HI4.out.eb 3
 have g0:=blk_free HI4.out.eb 0
 have g2:=blk_free HI4.out.eb 2
 have g3:=blk_free HI4.out.eb 3
 have el:=blk_lt HI4.out.eb
 simp only [List.getElem?_toArray,List.getElem?_cons_zero,List.getElem?_cons_succ] at rc1 e0 e1 e2 e3
 by_cases h5:s.length < a2 + 2
 ·rw [if_pos h5] at HD
  have HN:=Lib.hid (number_any q s a2 2 w4 HI4.out.rd h3' (by omega) (.inr rfl))
  rw [show numD s a2 2 = .error (s.length,1300) from if_pos h5] at HN
  clear h5
  go_wp2_with fail
  refine HN.out.mono ?_;rintro e w5 ⟨rfl,ht⟩
  exact ⟨rfl,by rw [← HD.out];exact ⟨rfl,HI4.out.tur.trans (ht.mono (by simp))⟩⟩
 rw [if_neg h5] at HD
 have HN:=Lib.hid (number_any q s a2 2 w4 HI4.out.rd h3' (by omega) (.inr rfl))
 rw [show numD s a2 2 = .ok (num2 s a2,a2 + 2) from if_neg h5] at HN
 have h5':a2 + 2 ≤ s.length:=by omega
 generalize num2 s a2 = m at *
 clear h5
 go_wp2_with fail
 refine HN.out.mono ?_;rintro e w5 ⟨rfl,hq,ht⟩
 have HI5:=Lib.hid (HI4.out.turn hq ht)
 clear rc1 e0 e1 e2 e3 g0 g2 g3 el
 clear hq ht HN HI4
 have rc1:=blk_cell HI5.out.rd 1
 have e0:=blk_cell HI5.out.eb 0
 have e1:=blk_cell HI5.out.eb 1
 have e2:=blk_cell HI5.out.eb 2
 have e3:=blk_cell HI5.out.eb 3
 have g0:=blk_free HI5.out.eb 0
 have g2:=blk_free HI5.out.eb 2
 have g3:=blk_free HI5.out.eb 3
 have el:=blk_lt HI5.out.eb
 simp only [List.getElem?_toArray,List.getElem?_cons_zero,List.getElem?_cons_succ] at rc1 e0 e1 e2 e3
 have HI6:=Lib.hid (HI5.out.mode (m':=(m:Int)))
 go_upto_region 12 with fail
 change Code.wp _ _ _ _ (w5.setCell ⟨w.heap.size + 1,2,none⟩ (.int .i64 (m:Int)))
 generalize (w5.setCell ⟨w.heap.size + 1,2,none⟩ (.int .i64 (m:Int))) = W6 at *
 clear rc1 e0 e1 e2 e3 g0 g2 g3 el
 clear HI5
 have rc1:=blk_cell HI6.out.rd 1
 have e0:=blk_cell HI6.out.eb 0
 have e1:=blk_cell HI6.out.eb 1
 have e2:=blk_cell HI6.out.eb 2
 have e3:=blk_cell HI6.out.eb 3
 have g0:=blk_free HI6.out.eb 0
 have g2:=blk_free HI6.out.eb 2
 have g3:=blk_free HI6.out.eb 3
 have el:=blk_lt HI6.out.eb
 simp only [List.getElem?_toArray,List.getElem?_cons_zero,List.getElem?_cons_succ] at rc1 e0 e1 e2 e3
 have HMO:=Lib.hid (fun W=>moded_any ⟨p,k,m,[]⟩ W)
 go_wp2_with fail
 refine (HMO.out _).mono ?_;rintro e w7 ⟨rfl,hb⟩
 have HI7:=Lib.hid (HI6.out.below hb)
 clear rc1 e0 e1 e2 e3 g0 g2 g3 el
 clear hb HMO HI6
 simp only
 cases h6:modeB k m with
 | false =>
  rw [if_pos h6] at HD
  clear h6
  go_wp2_with fail
  refine (fail_yes a2 1306 _).mono ?_;rintro e w' ⟨rfl,rfl⟩
  exact ⟨rfl,by rw [← HD.out];exact ⟨rfl,HI7.out.tur⟩⟩
 | true =>
 rw [if_neg (by rw [h6];decide)] at HD
 clear h6
 go_wp2_with fail
 refine (fail_no a2 1306 _).mono ?_;rintro e w' ⟨rfl,rfl⟩
 have rc1:=blk_cell HI7.out.rd 1
 have e0:=blk_cell HI7.out.eb 0
 have e1:=blk_cell HI7.out.eb 1
 have e2:=blk_cell HI7.out.eb 2
 have e3:=blk_cell HI7.out.eb 3
 have g0:=blk_free HI7.out.eb 0
 have g2:=blk_free HI7.out.eb 2
 have g3:=blk_free HI7.out.eb 3
 have el:=blk_lt HI7.out.eb
 simp only [List.getElem?_toArray,List.getElem?_cons_zero,List.getElem?_cons_succ] at rc1 e0 e1 e2 e3
 by_cases h7:s.length < a2 + 4
 ·rw [if_pos h7] at HD
  have HN:=Lib.hid (number_any q s (a2 + 2) 2 w7 HI7.out.rd h5' (by omega) (.inr rfl))
  rw [show numD s (a2 + 2) 2 = .error (s.length,1300) from if_pos (by omega)] at HN
  clear h7
  go_wp2_with fail
  refine HN.out.mono ?_;rintro e w8 ⟨rfl,ht⟩
  exact ⟨rfl,by rw [← HD.out];exact ⟨rfl,HI7.out.tur.trans (ht.mono (by simp))⟩⟩
 rw [if_neg h7] at HD
 have HN:=Lib.hid (number_any q s (a2 + 2) 2 w7 HI7.out.rd h5' (by omega) (.inr rfl))
 rw [show numD s (a2 + 2) 2 = .ok (num2 s (a2 + 2),a2 + 2 + 2) from if_neg (by omega)] at HN
 have h7':a2 + 2 + 2 ≤ s.length:=by omega
 have hql2:num2 s (a2 + 2) < 65536:=numV_lt s (a2 + 2) 2
 generalize num2 s (a2 + 2) = ql at *
 clear h7
 go_wp2_with fail
 refine HN.out.mono ?_;rintro e w8 ⟨rfl,hq,ht⟩
 have HI8:=Lib.hid (HI7.out.turn hq ht)
 clear rc1 e0 e1 e2 e3 g0 g2 g3 el
 clear hq ht HN HI7
 have HSZ:=Lib.hid (fun W=>sized_any k ql W)
 go_wp2_with fail
 refine (HSZ.out _).mono ?_;rintro e w' ⟨rfl,rfl⟩
 clear HSZ
 cases h8:lenB k ql with
 | false =>
  rw [if_pos h8] at HD
  clear h8
  go_wp2_with fail
  refine (fail_yes (a2 + 2) 1307 _).mono ?_;rintro e w' ⟨rfl,rfl⟩
  exact ⟨rfl,by rw [← HD.out];exact ⟨rfl,HI8.out.tur⟩⟩
 | true =>
 rw [if_neg (by rw [h8];decide)] at HD
 clear h8
 go_wp2_with fail
 refine (fail_no (a2 + 2) 1307 _).mono ?_;rintro e w' ⟨rfl,rfl⟩
 have rc1:=blk_cell HI8.out.rd 1
 have e0:=blk_cell HI8.out.eb 0
 have e1:=blk_cell HI8.out.eb 1
 have e2:=blk_cell HI8.out.eb 2
 have e3:=blk_cell HI8.out.eb 3
 have g0:=blk_free HI8.out.eb 0
 have g2:=blk_free HI8.out.eb 2
 have g3:=blk_free HI8.out.eb 3
 have el:=blk_lt HI8.out.eb
 simp only [List.getElem?_toArray,List.getElem?_cons_zero,List.getElem?_cons_succ] at rc1 e0 e1 e2 e3
 by_cases h9:s.length < a2 + 4 + ql
 ·rw [if_pos h9] at HD
  have HN:=Lib.hid (take_any q s (a2 + 2 + 2) ql w8 HI8.out.rd h7' (by omega) (by omega))
  rw [show takeD s (a2 + 2 + 2) ql = .error (s.length,1300) from if_pos (by omega)] at HN
  clear h9
  go_wp2_with fail
  refine HN.out.mono ?_;rintro e w9 ⟨rfl,ht⟩
  exact ⟨rfl,by rw [← HD.out];exact ⟨rfl,HI8.out.tur.trans (ht.mono (by simp))⟩⟩
 rw [if_neg h9] at HD
 have HN:=Lib.hid (take_any q s (a2 + 2 + 2) ql w8 HI8.out.rd h7' (by omega) (by omega))
 rw [show takeD s (a2 + 2 + 2) ql = .ok (sub s (a2 + 4) ql,a2 + 4 + ql) from if_neg (by omega)] at HN
 generalize sub s (a2 + 4) ql = d at *
 clear h9
 go_wp2_with fail
 refine HN.out.mono ?_;rintro e w9 ⟨rfl,hq,ht⟩
 have HI9:=Lib.hid (HI8.out.turn hq ht)
 clear rc1 e0 e1 e2 e3 g0 g2 g3 el
 clear hq ht HN HI8
 have rc1:=blk_cell HI9.out.rd 1
 have e0:=blk_cell HI9.out.eb 0
 have e1:=blk_cell HI9.out.eb 1
 have e2:=blk_cell HI9.out.eb 2
 have e3:=blk_cell HI9.out.eb 3
 have g0:=blk_free HI9.out.eb 0
 have g2:=blk_free HI9.out.eb 2
 have g3:=blk_free HI9.out.eb 3
 have el:=blk_lt HI9.out.eb
 simp only [List.getElem?_toArray,List.getElem?_cons_zero,List.getElem?_cons_succ] at rc1 e0 e1 e2 e3
 have HI10:=Lib.hid (HI9.out.data (d':=d))
 go_upto_region 18 with fail
 change Code.wp _ _ _ _ (w9.setCell ⟨w.heap.size + 1,3,none⟩ (sv d))
 generalize (w9.setCell ⟨w.heap.size + 1,3,none⟩ (sv d)) = W10 at *
 clear rc1 e0 e1 e2 e3 g0 g2 g3 el
 clear HI9
 have rc1:=blk_cell HI10.out.rd 1
 have e0:=blk_cell HI10.out.eb 0
 have e1:=blk_cell HI10.out.eb 1
 have e2:=blk_cell HI10.out.eb 2
 have e3:=blk_cell HI10.out.eb 3
 have g0:=blk_free HI10.out.eb 0
 have g2:=blk_free HI10.out.eb 2
 have g3:=blk_free HI10.out.eb 3
 have el:=blk_lt HI10.out.eb
 simp only [List.getElem?_toArray,List.getElem?_cons_zero,List.getElem?_cons_succ] at rc1 e0 e1 e2 e3
 have HIX:Hid (∀ W,Calls Tryz.prog 110 #[.string ⟨d.toArray⟩,.int .u8 0] W fun e w'=>e = .returned (.int .i64 (Lib.indexByte d 0)) ∧ w' = W):=fun W=>Tryz.strings_IndexByte ⟨d.toArray⟩ 0 W
 go_wp2_with fail
 refine (HIX.out _).mono ?_;rintro e W10 ⟨rfl,rfl⟩
 clear HIX
 have him:=index_mem d 0
 by_cases h10:k = 3 ∧ (0:UInt8) ∈ d
 ·rw [if_pos h10] at HD
  rw [decide_eq_true h10.2] at him
  have hb3:(k == 3) = true:=by rw [beq_iff_eq];exact h10.1
  clear h10
  go_wp2_with fail
  refine (fail_yes (a2 + 2 + 2) 1308 _).mono ?_;rintro e w' ⟨rfl,rfl⟩
  exact ⟨rfl,by rw [← HD.out];exact ⟨rfl,HI10.out.tur⟩⟩
 rw [if_neg h10] at HD
 have hfin:(k == 3) = false ∨ ((k == 3) = true ∧ decide (0 ≤ Lib.indexByte d 0) = false):=by
  by_cases hk:k = 3
  ·exact .inr ⟨by simp [hk],by rw [him];exact decide_eq_false (fun h=>h10 ⟨hk,h⟩)⟩
  ·exact .inl (beq_eq_false_iff_ne.2 hk)
 clear him h10
 have R0:=blk_cell HI10.out.rb 0
 have R1:=blk_cell HI10.out.rb 1
 have R2:=blk_cell HI10.out.rb 2
 have R3:=blk_cell HI10.out.rb 3
 have F0:=blk_free HI10.out.rb 0
 have F1:=blk_free HI10.out.rb 1
 have F2:=blk_free HI10.out.rb 2
 have F3:=blk_free HI10.out.rb 3
 have FL:=blk_lt HI10.out.rb
 simp only [List.getElem?_toArray,List.getElem?_cons_zero,List.getElem?_cons_succ] at R0 R1 R2 R3
 have H4:=Lib.hid (res4 HI10.out.rb (sv p) (.int .i64 k) (.int .i64 m) (sv d))
 have HT:Hid (Turned [q,mn,kn] w ((((W10.setCell ⟨w.heap.size,0,none⟩ (sv p)).setCell ⟨w.heap.size,1,none⟩ (.int .i64 k)).setCell ⟨w.heap.size,2,none⟩ (.int .i64 m)).setCell ⟨w.heap.size,3,none⟩ (sv d))):=
  tur_set (tur_set (tur_set (tur_set HI10.out.tur (Nat.le_refl _) _) (Nat.le_refl _) _) (Nat.le_refl _) _) (Nat.le_refl _) _
 have HQ:Hid (((((W10.setCell ⟨w.heap.size,0,none⟩ (sv p)).setCell ⟨w.heap.size,1,none⟩ (.int .i64 k)).setCell ⟨w.heap.size,2,none⟩ (.int .i64 m)).setCell ⟨w.heap.size,3,none⟩ (sv d)).heap[q]? = some (RdO s (a2 + 4 + ql))):=by
  have:=HI10.out.G.lq
  unfold Hid
  rw [blk_other (by omega),blk_other (by omega),blk_other (by omega),blk_other (by omega)]
  exact HI10.out.rd
 have HFL:Hid (FldP ((((W10.setCell ⟨w.heap.size,0,none⟩ (sv p)).setCell ⟨w.heap.size,1,none⟩ (.int .i64 k)).setCell ⟨w.heap.size,2,none⟩ (.int .i64 m)).setCell ⟨w.heap.size,3,none⟩ (sv d)) f mn kn F):=by
  have h1:=HI10.out.G.lf
  have h2:=HI10.out.G.lm
  have h3:=HI10.out.G.lk
  exact HI10.out.fld.turned (((((Turned.refl [w.heap.size] W10).setCell (by simp) _).setCell (by simp) _).setCell (by simp) _).setCell (by simp) _) (by simp;omega) (by simp;omega) (by simp;omega)
 rcases hfin with hb3 | ⟨hb3,hb4⟩
 all_goals
  go_wp2_with fail
  refine (fail_no (a2 + 2 + 2) 1308 _).mono ?_;rintro e w' ⟨rfl,rfl⟩
  go_wp2_with fail
  change bodyPost _ _ _ _ _ ((((W10.setCell ⟨w.heap.size,0,none⟩ (sv p)).setCell ⟨w.heap.size,1,none⟩ (.int .i64 k)).setCell ⟨w.heap.size,2,none⟩ (.int .i64 m)).setCell ⟨w.heap.size,3,none⟩ (sv d))
  generalize ((((W10.setCell ⟨w.heap.size,0,none⟩ (sv p)).setCell ⟨w.heap.size,1,none⟩ (.int .i64 k)).setCell ⟨w.heap.size,2,none⟩ (.int .i64 m)).setCell ⟨w.heap.size,3,none⟩ (sv d)) = wf at *
  have z0:=blk_cell H4.out 0
  have z1:=blk_cell H4.out 1
  have z2:=blk_cell H4.out 2
  have z3:=blk_cell H4.out 3
  simp only [List.getElem?_toArray,List.getElem?_cons_zero,List.getElem?_cons_succ] at z0 z1 z2 z3
  refine bodyPost_ret (v:=entV ⟨p,k,m,d⟩) (by simp [results,Tryz.results84,go_sem,z0,z1,z2,z3]) rfl ?_
  rw [← HD.out]
  exact ⟨rfl,HQ.out,HFL.out,HT.out⟩
end Go.Proofs.YtifhnpkapgaboaaGreat.arch
namespace Go.Proofs.YtifhnpkapgaboaaGreat.arch
open Go.RowKit
open heap
open path (sv str_size)
set_option maxRecDepth 100000
theorem Num_any (e:Int) (w:World):Calls Tryz.prog 10 #[.int .i64 e] w fun e' w'=>e' = .returned (.int .i64 e) ∧ w = w':=by
 go_enter Tryz.func10,Tryz.ntmps10
 go_wp2_with fail
 go_ret
 exact ⟨rfl,rfl⟩
def exE:Ent:=⟨[97],2,420,[120,121]⟩
theorem ex_enc:encL [exE] = ([79,82,76,2,1,97,164,1,2,0,120,121,0],0,0):=by decide
theorem ex_dec:decD [79,82,76] = .error (3,1300):=by rfl
abbrev exO:Obj:=.cells #[sv [97],.int .i64 2,.int .i64 420,sv [120,121]] 58 (0,0)
theorem ex_at (w:World) (b:Nat) (h:w.heap[b]? = some exO):EAt w b 0 [exE]:=by
 intro i e he
 match i with
 | 0 =>
  cases he
  exact ⟨blk_cell h 0,blk_cell h 1,blk_cell h 2,blk_cell h 3⟩
 | i + 1=>cases he
theorem awake_any (w:World):Calls Tryz.prog 12 #[] w fun e w'=>e = .returned (.bool true) ∧ Below w.heap.size w w':=by
 have HE:=Lib.hid (Encode_any [exE] w.heap.size 0 1 _ (ex_at _ _ (blk_new w exO)) (by decide) (by decide) (by intro x hx;cases hx with | head=>exact ⟨by decide,by decide⟩ | tail _ h=>cases h))
 have HB:Hid (Below w.heap.size w (w.alloc exO)):=(Below.refl _ _).alloc (Nat.le_refl _) _
 rw [ex_enc] at HE
 go_enter Tryz.func12,Tryz.ntmps12
 go_wp2_with fail
 refine HE.out.mono ?_;rintro e w1 ⟨rfl,hb⟩
 have HB1:=Lib.hid (HB.out.trans (hb.mono HB.out.size))
 clear hb HE HB
 go_wp2_with fail
 have HD:=Lib.hid (Decode_any [79,82,76] w1 (by decide))
 rw [ex_dec] at HD
 refine HD.out.mono ?_;rintro e w2 ⟨rfl,hb⟩
 have HB2:=Lib.hid (HB1.out.trans (hb.mono HB1.out.size))
 clear hb HD HB1
 go_wp2_with fail
 refine (EncodeImage_ex _).mono ?_;rintro e w3 ⟨rfl,hb⟩
 have HB3:=Lib.hid ((HB2.out.alloc HB2.out.size _).trans (hb.mono (HB2.out.alloc HB2.out.size _).size))
 clear hb HB2
 go_wp2_with fail
 refine (DecodeImage_ex w3).mono ?_;rintro e w4 ⟨rfl,hb⟩
 have HB4:=Lib.hid (HB3.out.trans (hb.mono HB3.out.size))
 clear hb HB3
 go_wp2_with fail
 refine (Num_any _ _).mono ?_;rintro e w' ⟨rfl,rfl⟩
 go_wp2_with fail
 refine (Num_any _ _).mono ?_;rintro e w' ⟨rfl,rfl⟩
 go_wp2_with fail
 refine (Num_any _ _).mono ?_;rintro e w' ⟨rfl,rfl⟩
 go_wp2_with fail
 refine (Num_any _ _).mono ?_;rintro e w' ⟨rfl,rfl⟩
 go_wp2_with fail
 go_ret
 exact ⟨rfl,HB4.out.alloc HB4.out.size _⟩
end Go.Proofs.YtifhnpkapgaboaaGreat.arch
