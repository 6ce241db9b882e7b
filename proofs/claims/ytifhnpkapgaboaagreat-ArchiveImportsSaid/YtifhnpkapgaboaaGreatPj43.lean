/-
  Proved: what the document's reader's layer does over a tree. Conditions: as each theorem says.
-/
import Derived.Test.YtifhnpkapgaboaaGreatPj36
import Derived.Test.YtifhnpkapgaboaaGreatPj37
import Derived.Test.YtifhnpkapgaboaaGreatPj38
import Derived.Test.YtifhnpkapgaboaaGreatPj42
set_option linter.unusedVariables false
set_option linter.unusedSimpArgs false
namespace Go.Proofs.YtifhnpkapgaboaaGreat.arch
open Go.RowKit
open heap
open path (sv str_size cleanB cleanR belowB)
open fld (Fld applyF Sk apply_sk)
open doc (pV bO DM TreeP allB mem_allB Rel PutO)
set_option maxRecDepth 100000
theorem tree_ty {W:World} {B t:Nat} {M:DM} (h:TreeP W B t M) {g:Nat} (hg:g ∈ allB t M) {cs:Array Value} {T:TypeId} {o:Nat × Nat} (hb:W.heap[g]? = some (.cells cs T o)):T = 78 ∨ T = 62 ∨ T = 9 ∨ T = 55:=by
 rcases mem_allB.1 hg with rfl | ⟨x,hx,hgx⟩
 ·obtain ⟨_,_,_,_,_,_,_,_,_,_,k⟩:=h.tb
  rw [hb] at k;simp at k;exact .inl k.2.1
 ·rcases doc.mem_blks.1 hgx with e | e | e
  ·obtain ⟨id,up,k⟩:=(h.node x hx).blk
   rw [← e,hb] at k;simp [bO] at k;exact .inr (.inl k.2.1)
  ·obtain ⟨-,-,c1,k⟩:=own_blk (h.node x hx).ns g (by simpa using e)
   rw [hb] at k;simp at k;exact .inr (.inr (.inl k.2.1))
  ·obtain ⟨-,-,c1,k⟩:=own_blk (h.node x hx).ks g (by simpa using e)
   rw [hb] at k;simp at k;exact .inr (.inr (.inr k.2.1))
theorem tree_rd {W:World} {B t q a:Nat} {s:Nm} {c b:Int} {M:DM} (h:TreeP W B t M) (hq:W.heap[q]? = some (RbO s a c b)):q ∉ allB t M:=fun hm=>by
 have:=tree_ty h hm hq
 revert this;decide
theorem tree_lay {W:World} {B t q:Nat} {v:Value} {M:DM} (h:TreeP W B t M) (hq:W.heap[q]? = some (.cells #[v] 44 (0,0))):q ∉ allB t M:=fun hm=>by
 have:=tree_ty h hm hq
 revert this;decide
theorem tree_row {W:World} {B t base:Nat} {v:Value} {es:List Ent} {M:DM} (h:TreeP W B t M) (hr:ERow W base v es):∀ g ∈ v.ownBlock.toList,g ∉ allB t M:=fun g hg hm=>by
 obtain ⟨-,-,c1,k⟩:=own_blk hr g hg
 have:=tree_ty h hm k
 revert this;decide
theorem tur_mix {w W W':World} {S S':List Nat} (h:Turned S w W) (ht:Turned S' W W') (hn:∀ g ∈ S',g ∈ S ∨ w.heap.size ≤ g):Turned S w W':=
 ⟨ht.os.trans h.os,ht.tape.trans h.tape,ht.output.trans h.output,Nat.le_trans h.size ht.size,fun b hb hbn=>by
  rw [ht.block b (Nat.lt_of_lt_of_le hb h.size) (fun hm=>by
   rcases hn b hm with h1 | h1
   ·exact hbn h1
   ·omega)]
  exact h.block b hb hbn⟩
structure LY (w:World) (q B t:Nat) (M0:DM) (s:Nm) (a:Nat) (c b:Int) (es:List Ent) (u:Value) (W:World):Prop where
 rd:W.heap[q]? = some (RbO s a c b)
 lb:W.heap[w.heap.size + 1]? = some (.cells #[u] 44 (0,0))
 rb:W.heap[w.heap.size]? = some (.cells #[.slice none 0 0] 44 (0,0))
 row:ERow W (w.heap.size + 2) u es
 tur:Turned (q :: allB t M0) w W
 ql:q < w.heap.size
theorem LY.turn {w W W':World} {q B t a a':Nat} {M0:DM} {s:Nm} {c b c' b':Int} {es:List Ent} {u:Value} (h:LY w q B t M0 s a c b es u W) (hq:W'.heap[q]? = some (RbO s a' c' b')) (ht:Turned [q] W W'):LY w q B t M0 s a' c' b' es u W':=
 ⟨hq,ht.kept h.lb (by have:=h.ql;simp;omega),ht.kept h.rb (by have:=h.ql;simp;omega),h.row.turned ht (fun g hg hm=>by have h1:=(h.row.lt g hg).1;have h2:=h.ql;have h3:g = q:=(by simpa using hm);omega),h.tur.trans (ht.mono (by simp)),h.ql⟩
theorem LY.below {w W W':World} {q B t a:Nat} {M0:DM} {s:Nm} {c b:Int} {es:List Ent} {u:Value} (h:LY w q B t M0 s a c b es u W) (hb:Below W.heap.size W W'):LY w q B t M0 s a c b es u W':=h.turn (blk_below h.rd hb) (Turned.of_below hb)
structure TY (w:World) (B t:Nat) (M0:DM) (n:Nat) (F:Fld) (G:Fld) (M:DM) (W:World):Prop where
 tr:TreeP W B t M
 rel:Rel G M
 sk:Sk F G
 new:∀ g ∈ allB t M,g ∈ allB t M0 ∨ w.heap.size ≤ g
 len:M.length ≤ M0.length + n
theorem TY.turn {w W W':World} {q B t a n:Nat} {M0 M:DM} {s:Nm} {c b:Int} {F G:Fld} (h:TY w B t M0 n F G M W) (hrd:W.heap[q]? = some (RbO s a c b)) (ht:Turned [q] W W'):TY w B t M0 n F G M W':=
 ⟨h.tr.turned ht (fun g hg hm => tree_rd h.tr hrd (by have : g = q := by simpa using hm
                                                      exact this ▸ hg)),h.rel,h.sk,h.new,h.len⟩
theorem TY.below {w W W':World} {B t n:Nat} {M0 M:DM} {F G:Fld} (h:TY w B t M0 n F G M W) (hb:Below W.heap.size W W'):TY w B t M0 n F G M W':=⟨h.tr.below hb,h.rel,h.sk,h.new,h.len⟩
def LyR (q B t:Nat) (M0:DM) (s:Nm) (r:Except Flt ((List Ent × Fld) × Nat)) (w:World) (e:Ending) (w':World):Prop:=match r with
 | .error p=>∃ (u:Value) (es:List Ent) (a':Nat),e = .returned (.agg #[u]) ∧ ERow w' w.heap.size u es ∧ w'.heap[q]? = some (RbO s a' p.2 p.1) ∧ p.2 ≠ 0 ∧ Turned (q :: allB t M0) w w' ∧ es.length ≤ 256
 | .ok ((es,F),b)=>∃ (u:Value) (bd:Int) (G:Fld) (M:DM),e = .returned (.agg #[u]) ∧ ERow w' w.heap.size u es ∧ w'.heap[q]? = some (RbO s b 0 bd) ∧ TY w B t M0 256 F G M w' ∧ Turned (q :: allB t M0) w w' ∧ es.length ≤ 256
theorem entG_path {s:Nm} {k:Int} {a b:Nat} {es:List Ent} {F F':Fld} {e:Ent} (h:entG s k a es F = .ok ((e,F'),b)) (h1:1 ≤ k) (h5:k ≤ 5):cleanB e.path = true ∧ e.path ≠ [] ∧ e.path.length ≤ 140 ∧ a < b ∧ b ≤ s.length ∧ applyF F (hd e) = some F' ∧ e.kind = k:=by
 obtain ⟨hD,hF,hk⟩:=entG_to h
 obtain ⟨-,-,hab,hbs,hf⟩:=ent_bytes hD
 have he:=hf h1 h5
 have hok:=ent_ok he
 refine ⟨?_,hok.2.2.1,(entG_le h).2.2,hab,hbs,hF,hk⟩
 unfold entF at he
 split at he
 ·exact absurd he (by decide)
 ·split at he
  ·rename_i hpe;exact absurd he hpe
  ·rename_i hpe
   have hpe:=Classical.not_not.1 hpe
   rw [pathE_eq] at hpe
   split at hpe
   ·exact absurd hpe (by decide)
   ·rename_i hc
    cases hh:path.cleanB e.path with
    | false=>exact absurd (.inr hh) hc
    | true=>rfl
theorem TY.put {w W W':World} {B t n:Nat} {M0 M M':DM} {F F' G G':Fld} {e:Ent} (h:TY w B t M0 n F G M W) (hF:applyF F (hd e) = some F') (hG:applyF G e = some G') (hR:Rel G' M') (hT:TreeP W' B t M') (hn:∀ g ∈ allB t M',g ∈ allB t M ∨ W.heap.size ≤ g) (hw:w.heap.size ≤ W.heap.size) (hl:M'.length ≤ M.length + 1):TY w B t M0 (n + 1) F' G' M' W':=by
 refine ⟨hT,hR,?_,fun g hg => ?_,by have:=h.len;omega⟩
 ·rcases apply_sk h.sk (e:=hd e) (e':=e) rfl rfl with ⟨h1,-⟩ | ⟨F1,G1,h1,h2,h3⟩
  ·rw [hF] at h1;cases h1
  ·rw [hF] at h1;rw [hG] at h2
   cases h1;cases h2;exact h3
 ·rcases hn g hg with h1 | h1
  ·exact h.new g h1
  ·exact .inr (by omega)
theorem TY.some {w W:World} {B t n:Nat} {M0 M:DM} {F F' G:Fld} {e:Ent} (h:TY w B t M0 n F G M W) (hF:applyF F (hd e) = some F'):∃ G',applyF G e = some G':=by
 rcases apply_sk h.sk (e:=hd e) (e':=e) rfl rfl with ⟨h1,-⟩ | ⟨F1,G1,h1,h2,h3⟩
 ·rw [hF] at h1;cases h1
 ·exact ⟨_,h2⟩
theorem TY.le {w W:World} {B t n m:Nat} {M0 M:DM} {F G:Fld} (h:TY w B t M0 n F G M W) (hm:n ≤ m):TY w B t M0 m F G M W:=⟨h.tr,h.rel,h.sk,h.new,by have:=h.len;omega⟩
theorem TY.turnS {w W W':World} {B t n:Nat} {M0 M:DM} {F G:Fld} {S:List Nat} (h:TY w B t M0 n F G M W) (ht:Turned S W W') (hS:∀ g ∈ S,g ∉ allB t M):TY w B t M0 n F G M W':=⟨h.tr.turned ht (fun g hg hm=>hS g hm hg),h.rel,h.sk,h.new,h.len⟩
set_option maxHeartbeats 16000000 in
theorem rlayer_any (q B t:Nat) (F G:Fld) (M0:DM) (s:Nm) (a:Nat) (bd:Int) (w:World) (hrd:w.heap[q]? = some (RbO s a 0 bd)) (hT:TreeP w B t M0) (hR:Rel G M0) (hS:Sk F G) (hM:M0.length ≤ 900000000) (ha:a ≤ s.length) (hs:s.length ≤ 65536) :
  Calls Tryz.prog 48 #[PP q,pV t] w (LyR q B t M0 s (layerG s a F) w):=by
 have hql:=blk_lt hrd
 have z:=str_size s
 have HL0:Hid (LY w q B t M0 s a 0 bd [] (.slice none 0 0) ((w.alloc (.cells #[.slice none 0 0] 44 (0,0))).alloc (.cells #[.slice none 0 0] 44 (0,0)))):=by
  have e1:(w.alloc (.cells #[.slice none 0 0] 44 (0,0))).heap.size = w.heap.size + 1:=by simp
  have h2:=blk_new (w.alloc (.cells #[.slice none 0 0] 44 (0,0))) (.cells #[.slice none 0 0] 44 (0,0))
  rw [e1] at h2
  exact ⟨blk_old (blk_old hrd _) _,h2,blk_old (blk_new _ _) _,ERow.nil _ _,((Turned.refl _ _).alloc _).alloc _,hql⟩
 have HT0:Hid (TY w B t M0 0 F G M0 ((w.alloc (.cells #[.slice none 0 0] 44 (0,0))).alloc (.cells #[.slice none 0 0] 44 (0,0)))):=
  ⟨hT.below (((Below.refl _ _).alloc (Nat.le_refl _) _).alloc (by simp) _),hR,hS,fun g hg=>.inl hg,by omega⟩
 clear hrd hT hR hS
 obtain ⟨R,hR⟩:∃ R,layerG s a F = R:=⟨_,rfl⟩
 rw [hR]
 have HD:=Lib.hid hR
 clear hR
 unfold layerG at HD
 have hs2:s.length ≤ 10000000:=by omega
 have hw1:IntKind.i64.wrap ((s.length:Int) - (a:Int)) = (s.length:Int) - (a:Int):=IntWalk.i64_in _ (by omega)
 have hw2:IntKind.i64.wrap ((a:Int) + 3) = (a:Int) + 3:=IntWalk.i64_in _ (by omega)
 go_enter Tryz.func48,Tryz.ntmps48
 go_upto_region 2 with fail
 change Code.wp _ _ _ _ ((w.alloc (.cells #[.slice none 0 0] 44 (0,0))).alloc (.cells #[.slice none 0 0] 44 (0,0)))
 generalize ((w.alloc (.cells #[.slice none 0 0] 44 (0,0))).alloc (.cells #[.slice none 0 0] 44 (0,0))) = W0 at *
 have rc0:=blk_cell HL0.out.rd 0
 have rc1:=blk_cell HL0.out.rd 1
 have rc2:=blk_cell HL0.out.rd 2
 have rl:=blk_lt HL0.out.rd
 have lc:=blk_cell HL0.out.lb 0
 have lf:=blk_free HL0.out.lb 0
 have ll:=blk_lt HL0.out.lb
 simp only [List.getElem?_toArray,List.getElem?_cons_zero,List.getElem?_cons_succ] at rc0 rc1 rc2 lc
 cases hpr:mkL.isPrefixOf (s.drop a) with
 | false =>
  have HD2:Hid (R = .error (a,1301)):=by rw [← HD.out];unfold Hid markD;rw [hpr];rfl
  have hsp:decide ((s.length:Int) - (a:Int) < 3) = true ∨ (decide ((s.length:Int) - (a:Int) < 3) = false ∧ a + 3 ≤ s.length ∧ sub s a 3 ≠ mkL):=by
   by_cases h:(s.length:Int) - (a:Int) < 3
   ·exact .inl (decide_eq_true h)
   ·refine .inr ⟨decide_eq_false h,by omega,fun e => ?_⟩
    have:mkL <+: s.drop a:=⟨s.drop (a + 3),by rw [← e,← drop_sub]⟩
    rw [List.isPrefixOf_iff_prefix.2 this] at hpr
    cases hpr
  clear hpr HD
  rcases hsp with d1 | ⟨d1,h3,hne⟩
  ·have hdm:=d1
   go_quiet (fail)
   have HL1:=Lib.hid (HL0.out.below (below_drewN (Below.refl _ _) nq))
   have HT1:=Lib.hid (HT0.out.below (below_drewN (Below.refl _ _) nq))
   generalize (W0.drewN nq) = W1 at *
   clear rc0 rc1 rc2 rl lc lf ll
   clear HL0 HT0
   have rc0:=blk_cell HL1.out.rd 0
   have rc1:=blk_cell HL1.out.rd 1
   have rc2:=blk_cell HL1.out.rd 2
   have rl:=blk_lt HL1.out.rd
   have lc:=blk_cell HL1.out.lb 0
   have lf:=blk_free HL1.out.lb 0
   have ll:=blk_lt HL1.out.lb
   simp only [List.getElem?_toArray,List.getElem?_cons_zero,List.getElem?_cons_succ] at rc0 rc1 rc2 lc
   go_wp2_with fail
   refine (fault_live q s a bd 1301 a _ HL1.out.rd).mono ?_;rintro e W2 ⟨rfl,hq,ht⟩
   have HL2:=Lib.hid (HL1.out.turn hq ht)
   clear rc0 rc1 rc2 rl lc lf ll
   clear hq ht HL1
   have rc0:=blk_cell HL2.out.rd 0
   have rc1:=blk_cell HL2.out.rd 1
   have rc2:=blk_cell HL2.out.rd 2
   have rl:=blk_lt HL2.out.rd
   have lc:=blk_cell HL2.out.lb 0
   have lf:=blk_free HL2.out.lb 0
   have ll:=blk_lt HL2.out.lb
   simp only [List.getElem?_toArray,List.getElem?_cons_zero,List.getElem?_cons_succ] at rc0 rc1 rc2 lc
   have hRR:=HD2.out
   clear HD2 HT1
   subst hRR
   have hel:([]:List Ent).length ≤ 256:=by decide
   clear rc0 rc1 rc2 rl lc lf ll
   have r0:=blk_cell HL2.out.rb 0
   have rf:=blk_free HL2.out.rb 0
   have lr:=blk_lt HL2.out.rb
   have lc:=blk_cell HL2.out.lb 0
   have ll:=blk_lt HL2.out.lb
   have rl:=blk_lt HL2.out.rd
   have rc2:=blk_cell HL2.out.rd 2
   simp only [List.getElem?_toArray,List.getElem?_cons_zero,List.getElem?_cons_succ] at r0 lc rc2
   have hbs:=blk_set HL2.out.rb 0 (.slice none 0 0)
   have k2:=blk_cell hbs 0
   simp only [List.setIfInBounds_toArray,List.set_cons_zero,List.getElem?_toArray,List.getElem?_cons_zero] at k2
   have HTU:Hid (Turned [w.heap.size] W2 (W2.setCell ⟨w.heap.size,0,none⟩ (.slice none 0 0))):=(Turned.refl [w.heap.size] W2).setCell (by simp) _
   have hq5:=HTU.out.kept HL2.out.rd (by have:=HL2.out.ql;simp;omega)
   have HQ5:=Lib.hid hq5
   have HRW:=Lib.hid (ERow.base (HL2.out.row.turned HTU.out (fun g hg hm=>by have h1:=(HL2.out.row.lt g hg).1;have h3:g = w.heap.size:=(by simpa using hm);omega)) (show w.heap.size ≤ w.heap.size + 2 by omega))
   have HTW:Hid (Turned (q :: allB t M0) w (W2.setCell ⟨w.heap.size,0,none⟩ (.slice none 0 0))):=tur_set HL2.out.tur (Nat.le_refl _) _
   clear hbs hq5
   go_wp2_with fail
   refine bodyPost_ret (v:=.agg #[.slice none 0 0]) (by simp [results,Tryz.results48,go_sem,k2]) rfl ?_
   exact ⟨_,[],_,rfl,HRW.out,HQ5.out,(by show (1301:Int) ≠ 0;decide),HTW.out,by decide⟩
  ·have hex:(⟨s.toArray⟩:ByteArray).extract a (a + 3) = ⟨(sub s a 3).toArray⟩:=by rw [path.cut_str,Nat.add_sub_cancel_left];rfl
   have hneb:(sub s a 3 == [79,82,76]) = false:=beq_eq_false_iff_ne.2 hne
   generalize sub s a 3 = s3 at *
   have hi1:(a:Int) ≤ (a:Int) + 3:=by omega
   have hi2:(a:Int) + 3 ≤ (s.length:Int):=by omega
   have hi5:(0:Int) ≤ (a:Int) + 3:=by omega
   have hi6:((a:Int) + 3).toNat = a + 3:=by omega
   clear hne
   go_quiet (fail)
   have HL1:=Lib.hid (HL0.out.below (below_drewN (Below.refl _ _) nq))
   have HT1:=Lib.hid (HT0.out.below (below_drewN (Below.refl _ _) nq))
   generalize (W0.drewN nq) = W1 at *
   clear rc0 rc1 rc2 rl lc lf ll
   clear HL0 HT0
   have rc0:=blk_cell HL1.out.rd 0
   have rc1:=blk_cell HL1.out.rd 1
   have rc2:=blk_cell HL1.out.rd 2
   have rl:=blk_lt HL1.out.rd
   have lc:=blk_cell HL1.out.lb 0
   have lf:=blk_free HL1.out.lb 0
   have ll:=blk_lt HL1.out.lb
   simp only [List.getElem?_toArray,List.getElem?_cons_zero,List.getElem?_cons_succ] at rc0 rc1 rc2 lc
   go_wp2_with fail
   refine (fault_live q s a bd 1301 a _ HL1.out.rd).mono ?_;rintro e W2 ⟨rfl,hq,ht⟩
   have HL2:=Lib.hid (HL1.out.turn hq ht)
   clear rc0 rc1 rc2 rl lc lf ll
   clear hq ht HL1
   have rc0:=blk_cell HL2.out.rd 0
   have rc1:=blk_cell HL2.out.rd 1
   have rc2:=blk_cell HL2.out.rd 2
   have rl:=blk_lt HL2.out.rd
   have lc:=blk_cell HL2.out.lb 0
   have lf:=blk_free HL2.out.lb 0
   have ll:=blk_lt HL2.out.lb
   simp only [List.getElem?_toArray,List.getElem?_cons_zero,List.getElem?_cons_succ] at rc0 rc1 rc2 lc
   have hRR:=HD2.out
   clear HD2 HT1
   subst hRR
   have hel:([]:List Ent).length ≤ 256:=by decide
   clear rc0 rc1 rc2 rl lc lf ll
   have r0:=blk_cell HL2.out.rb 0
   have rf:=blk_free HL2.out.rb 0
   have lr:=blk_lt HL2.out.rb
   have lc:=blk_cell HL2.out.lb 0
   have ll:=blk_lt HL2.out.lb
   have rl:=blk_lt HL2.out.rd
   have rc2:=blk_cell HL2.out.rd 2
   simp only [List.getElem?_toArray,List.getElem?_cons_zero,List.getElem?_cons_succ] at r0 lc rc2
   have hbs:=blk_set HL2.out.rb 0 (.slice none 0 0)
   have k2:=blk_cell hbs 0
   simp only [List.setIfInBounds_toArray,List.set_cons_zero,List.getElem?_toArray,List.getElem?_cons_zero] at k2
   have HTU:Hid (Turned [w.heap.size] W2 (W2.setCell ⟨w.heap.size,0,none⟩ (.slice none 0 0))):=(Turned.refl [w.heap.size] W2).setCell (by simp) _
   have hq5:=HTU.out.kept HL2.out.rd (by have:=HL2.out.ql;simp;omega)
   have HQ5:=Lib.hid hq5
   have HRW:=Lib.hid (ERow.base (HL2.out.row.turned HTU.out (fun g hg hm=>by have h1:=(HL2.out.row.lt g hg).1;have h3:g = w.heap.size:=(by simpa using hm);omega)) (show w.heap.size ≤ w.heap.size + 2 by omega))
   have HTW:Hid (Turned (q :: allB t M0) w (W2.setCell ⟨w.heap.size,0,none⟩ (.slice none 0 0))):=tur_set HL2.out.tur (Nat.le_refl _) _
   clear hbs hq5
   go_wp2_with fail
   refine bodyPost_ret (v:=.agg #[.slice none 0 0]) (by simp [results,Tryz.results48,go_sem,k2]) rfl ?_
   exact ⟨_,[],_,rfl,HRW.out,HQ5.out,(by show (1301:Int) ≠ 0;decide),HTW.out,by decide⟩
 | true =>
 have hml:=mark_len hpr
 have hml3:(mkL:Nm).length = 3:=rfl
 have h3:a + 3 ≤ s.length:=by omega
 rw [show markD s mkL a = .ok ((),a + 3) from by unfold markD;rw [hpr];rfl] at HD
 simp only at HD
 have d1:decide ((s.length:Int) - (a:Int) < 3) = false:=decide_eq_false (by omega)
 have hsub:sub s a 3 = mkL:=by
  obtain ⟨r,hr⟩:=List.isPrefixOf_iff_prefix.1 hpr
  unfold sub;rw [← hr];exact List.take_left' rfl
 have hex:(⟨s.toArray⟩:ByteArray).extract a (a + 3) = ⟨#[79,82,76]⟩:=by rw [path.cut_str,Nat.add_sub_cancel_left];exact congrArg (fun l:Nm=>(⟨l.toArray⟩:ByteArray)) hsub
 have hi1:(a:Int) ≤ (a:Int) + 3:=by omega
 have hi2:(a:Int) + 3 ≤ (s.length:Int):=by omega
 have hi5:(0:Int) ≤ (a:Int) + 3:=by omega
 have hi6:((a:Int) + 3).toNat = a + 3:=by omega
 have hneb:((⟨#[79,82,76]⟩:ByteArray) != ⟨#[79,82,76]⟩) = false:=by decide
 clear hpr hml hml3 hsub
 go_quiet (fail)
 have HL1:=Lib.hid (HL0.out.below (below_drewN (Below.refl _ _) nq))
 have HT1:=Lib.hid (HT0.out.below (below_drewN (Below.refl _ _) nq))
 generalize (W0.drewN nq) = W1 at *
 clear rc0 rc1 rc2 rl lc lf ll
 clear HL0 HT0
 have rc0:=blk_cell HL1.out.rd 0
 have rc1:=blk_cell HL1.out.rd 1
 have rc2:=blk_cell HL1.out.rd 2
 have rl:=blk_lt HL1.out.rd
 have lc:=blk_cell HL1.out.lb 0
 have lf:=blk_free HL1.out.lb 0
 have ll:=blk_lt HL1.out.lb
 simp only [List.getElem?_toArray,List.getElem?_cons_zero,List.getElem?_cons_succ] at rc0 rc1 rc2 lc
 have HTK:=Lib.hid (rtake_ok q s a bd 3 _ HL1.out.rd hs2 h3)
 go_wp2_with fail
 refine (HTK.out).mono ?_;rintro e W2 ⟨rfl,hq,ht⟩
 have HL2:=Lib.hid (HL1.out.turn hq ht)
 have HT2:=Lib.hid (HT1.out.turn HL1.out.rd ht)
 clear rc0 rc1 rc2 rl lc lf ll
 clear hq ht HL1
 have rc0:=blk_cell HL2.out.rd 0
 have rc1:=blk_cell HL2.out.rd 1
 have rc2:=blk_cell HL2.out.rd 2
 have rl:=blk_lt HL2.out.rd
 have lc:=blk_cell HL2.out.lb 0
 have lf:=blk_free HL2.out.lb 0
 have ll:=blk_lt HL2.out.lb
 simp only [List.getElem?_toArray,List.getElem?_cons_zero,List.getElem?_cons_succ] at rc0 rc1 rc2 lc
 clear HT1 HTK d1 hex hneb hi1 hi2 hi5 hi6 hw1 hw2
 go_wp2_with fail
 clear rc0 rc1 rc2 rl lc lf ll
 go_loopg [6,7,8] (s.length + 1) (fun kk v6 v7 v8 wr=>∃ (b:Nat) (es:List Ent) (c bd:Int) (u:Value),es.length ≤ 256 ∧ Hid (LY w q B t M0 s b c bd es u wr) ∧ ((c ≠ 0 ∧ Hid (∃ bn:Nat,bd = bn ∧ R = .error (bn,c))) ∨ (c = 0 ∧ b ≤ s.length ∧ s.length + 1 ≤ kk + b ∧ (∀ x ∈ es,x.path.length ≤ 2000000) ∧ ∃ F G M,Hid (TY w B t M0 es.length F G M wr) ∧ Hid (layG s kk b es F = R))))
 case atStart=>exact ⟨a + 3,[],0,bd,_,by decide,HL2,.inr ⟨rfl,h3,by omega,by simp,F,G,M0,HT2,HD⟩⟩
 case round =>
  clear HL2 HT2 HD h3 ha
  clear F G
  obtain ⟨b,es,c,bd,u,hel,HL,hcase⟩:=hrel
  obtain ⟨Au,gu,cu,rfl,hu1,hu2,hu3,hu4⟩:=HL.out.row.slice
  rcases hcase with ⟨hc,HE⟩ | ⟨rfl,hb,hkb,hpl,F,G,M,HT,HD⟩
  ·obtain ⟨bn,rfl,hRR⟩:=HE.out
   subst hRR
   have HCX:=Lib.hid hc
   have hc0:(c == 0) = false:=beq_eq_false_iff_ne.2 hc
   clear hc HE
   have rc0:=blk_cell HL.out.rd 0
   have rc1:=blk_cell HL.out.rd 1
   have rc2:=blk_cell HL.out.rd 2
   have rl:=blk_lt HL.out.rd
   have lc:=blk_cell HL.out.lb 0
   have lf:=blk_free HL.out.lb 0
   have ll:=blk_lt HL.out.lb
   simp only [List.getElem?_toArray,List.getElem?_cons_zero,List.getElem?_cons_succ] at rc0 rc1 rc2 lc
   clear rc0 rc1 rc2 rl lc lf ll
   have r0:=blk_cell HL.out.rb 0
   have rf:=blk_free HL.out.rb 0
   have lr:=blk_lt HL.out.rb
   have lc:=blk_cell HL.out.lb 0
   have ll:=blk_lt HL.out.lb
   have rl:=blk_lt HL.out.rd
   have rc2:=blk_cell HL.out.rd 2
   simp only [List.getElem?_toArray,List.getElem?_cons_zero,List.getElem?_cons_succ] at r0 lc rc2
   have hbs:=blk_set HL.out.rb 0 (.slice Au es.length cu)
   have k2:=blk_cell hbs 0
   simp only [List.setIfInBounds_toArray,List.set_cons_zero,List.getElem?_toArray,List.getElem?_cons_zero] at k2
   have HTU:Hid (Turned [w.heap.size] wr (wr.setCell ⟨w.heap.size,0,none⟩ (.slice Au es.length cu))):=(Turned.refl [w.heap.size] wr).setCell (by simp) _
   have hq5:=HTU.out.kept HL.out.rd (by have:=HL.out.ql;simp;omega)
   have HQ5:=Lib.hid hq5
   have HRW:=Lib.hid (ERow.base (HL.out.row.turned HTU.out (fun g hg hm=>by have h1:=(HL.out.row.lt g hg).1;have h3:g = w.heap.size:=(by simpa using hm);omega)) (show w.heap.size ≤ w.heap.size + 2 by omega))
   have HTW:Hid (Turned (q :: allB t M0) w (wr.setCell ⟨w.heap.size,0,none⟩ (.slice Au es.length cu))):=tur_set HL.out.tur (Nat.le_refl _) _
   clear hbs hq5
   go_wp2_with fail
   refine bodyPost_ret (v:=.agg #[.slice Au es.length cu]) (by simp [results,Tryz.results48,go_sem,k2]) rfl ?_
   exact ⟨_,es,_,rfl,HRW.out,HQ5.out,HCX.out,HTW.out,hel⟩
  ·cases gk with
   | zero=>omega
   | succ gk =>
   have HD2:=HD.out
   rw [layG] at HD2
   have HDD:=Lib.hid HD2
   clear HD HD2
   have rc0:=blk_cell HL.out.rd 0
   have rc1:=blk_cell HL.out.rd 1
   have rc2:=blk_cell HL.out.rd 2
   have rl:=blk_lt HL.out.rd
   have lc:=blk_cell HL.out.lb 0
   have lf:=blk_free HL.out.lb 0
   have ll:=blk_lt HL.out.lb
   simp only [List.getElem?_toArray,List.getElem?_cons_zero,List.getElem?_cons_succ] at rc0 rc1 rc2 lc
   obtain ⟨n,hn⟩:∃ n,(s.getD b 0).toNat = n:=⟨_,rfl⟩
   have hn255:=(s.getD b 0).toNat_lt
   have hnv:numV s b 1 = n:=hn
   rw [hn] at hn255 HDD
   by_cases h1:s.length < b + 1
   ·rw [if_pos h1] at HDD
    have hRR:=HDD.out
    clear HDD
    go_wp2_with fail
    refine (rnum_short q s b bd 1 _ HL.out.rd hb hs2 h1).mono ?_;rintro e w2 ⟨rfl,hq,ht⟩
    have HL2:=Lib.hid (HL.out.turn hq ht)
    clear rc0 rc1 rc2 rl lc lf ll
    clear hq ht HL
    have rc0:=blk_cell HL2.out.rd 0
    have rc1:=blk_cell HL2.out.rd 1
    have rc2:=blk_cell HL2.out.rd 2
    have rl:=blk_lt HL2.out.rd
    have lc:=blk_cell HL2.out.lb 0
    have lf:=blk_free HL2.out.lb 0
    have ll:=blk_lt HL2.out.lb
    simp only [List.getElem?_toArray,List.getElem?_cons_zero,List.getElem?_cons_succ] at rc0 rc1 rc2 lc
    subst hRR
    clear HT h1
    have HCX:=Lib.hid (show (1300:Int) ≠ 0 by decide)
    clear rc0 rc1 rc2 rl lc lf ll
    have r0:=blk_cell HL2.out.rb 0
    have rf:=blk_free HL2.out.rb 0
    have lr:=blk_lt HL2.out.rb
    have lc:=blk_cell HL2.out.lb 0
    have ll:=blk_lt HL2.out.lb
    have rl:=blk_lt HL2.out.rd
    have rc2:=blk_cell HL2.out.rd 2
    simp only [List.getElem?_toArray,List.getElem?_cons_zero,List.getElem?_cons_succ] at r0 lc rc2
    have hbs:=blk_set HL2.out.rb 0 (.slice Au es.length cu)
    have k2:=blk_cell hbs 0
    simp only [List.setIfInBounds_toArray,List.set_cons_zero,List.getElem?_toArray,List.getElem?_cons_zero] at k2
    have HTU:Hid (Turned [w.heap.size] w2 (w2.setCell ⟨w.heap.size,0,none⟩ (.slice Au es.length cu))):=(Turned.refl [w.heap.size] w2).setCell (by simp) _
    have hq5:=HTU.out.kept HL2.out.rd (by have:=HL2.out.ql;simp;omega)
    have HQ5:=Lib.hid hq5
    have HRW:=Lib.hid (ERow.base (HL2.out.row.turned HTU.out (fun g hg hm=>by have h1:=(HL2.out.row.lt g hg).1;have h3:g = w.heap.size:=(by simpa using hm);omega)) (show w.heap.size ≤ w.heap.size + 2 by omega))
    have HTW:Hid (Turned (q :: allB t M0) w (w2.setCell ⟨w.heap.size,0,none⟩ (.slice Au es.length cu))):=tur_set HL2.out.tur (Nat.le_refl _) _
    clear hbs hq5
    go_wp2_with fail
    refine bodyPost_ret (v:=.agg #[.slice Au es.length cu]) (by simp [results,Tryz.results48,go_sem,k2]) rfl ?_
    exact ⟨_,es,_,rfl,HRW.out,HQ5.out,HCX.out,HTW.out,hel⟩
   rw [if_neg h1] at HDD
   have h1':b + 1 ≤ s.length:=by omega
   have HN:=Lib.hid (rnum_ok q s b bd 1 _ HL.out.rd hs2 (.inl rfl) h1')
   rw [hnv] at HN
   clear h1 hnv hn
   go_wp2_with fail
   refine (HN.out).mono ?_;rintro e w2 ⟨rfl,hq,ht⟩
   have HL2:=Lib.hid (HL.out.turn hq ht)
   have HT2:=Lib.hid (HT.out.turn HL.out.rd ht)
   clear rc0 rc1 rc2 rl lc lf ll
   clear hq ht HL
   have rc0:=blk_cell HL2.out.rd 0
   have rc1:=blk_cell HL2.out.rd 1
   have rc2:=blk_cell HL2.out.rd 2
   have rl:=blk_lt HL2.out.rd
   have lc:=blk_cell HL2.out.lb 0
   have lf:=blk_free HL2.out.lb 0
   have ll:=blk_lt HL2.out.lb
   simp only [List.getElem?_toArray,List.getElem?_cons_zero,List.getElem?_cons_succ] at rc0 rc1 rc2 lc
   clear HN HT
   by_cases hn0:n = 0
   ·subst hn0
    rw [if_pos rfl] at HDD
    obtain ⟨r,rest,cc,fd,l,ii,mm,nx,bs,hMr,htb⟩:=HT2.out.tr.tb
    have t0:w2.cell? ⟨t,0,none⟩ = some (pV r.b):=by rw [blk_cell htb];rfl
    have tl:=blk_lt htb
    have hrM:r ∈ M:=by rw [hMr];simp
    have hcnt:doc.cnt M r.ps = F.nodes.length:=by
     obtain ⟨r',rest',h1,h2,-⟩:=HT2.out.tr.wf.root
     rw [hMr,List.cons.injEq] at h1
     have hrp:r.ps = []:=by rw [h1.1];exact h2
     have h3:=HT2.out.tr.wf.count_root
     have h4:=HT2.out.rel.len
     have h5:=HT2.out.sk.len
     rw [hrp];omega
    have HCT:=Lib.hid (doc.Count_any HT2.out.tr (by have:=HT2.out.len;omega) r hrM)
    rw [hcnt] at HCT
    clear hMr htb hrM hcnt
    generalize r.b = rb2 at *
    by_cases h128:128 < F.nodes.length
    ·rw [if_pos h128] at HDD
     have hRR:=HDD.out
     have d8:decide ((128:Int) < (F.nodes.length:Int)) = true:=decide_eq_true (by omega)
     clear HDD h128
     go_wp2_with fail
     refine HCT.out.mono ?_;rintro e w2 ⟨rfl,rfl⟩
     clear HCT t0 tl
     go_wp2_with fail
     refine (fault_live q s (b + 1) bd 1309 b _ HL2.out.rd).mono ?_;rintro e w3 ⟨rfl,hq,ht⟩
     have HL3:=Lib.hid (HL2.out.turn hq ht)
     clear rc0 rc1 rc2 rl lc lf ll
     clear hq ht HL2
     have rc0:=blk_cell HL3.out.rd 0
     have rc1:=blk_cell HL3.out.rd 1
     have rc2:=blk_cell HL3.out.rd 2
     have rl:=blk_lt HL3.out.rd
     have lc:=blk_cell HL3.out.lb 0
     have lf:=blk_free HL3.out.lb 0
     have ll:=blk_lt HL3.out.lb
     simp only [List.getElem?_toArray,List.getElem?_cons_zero,List.getElem?_cons_succ] at rc0 rc1 rc2 lc
     subst hRR
     clear HT2
     have HCX:=Lib.hid (show (1309:Int) ≠ 0 by decide)
     clear rc0 rc1 rc2 rl lc lf ll
     have r0:=blk_cell HL3.out.rb 0
     have rf:=blk_free HL3.out.rb 0
     have lr:=blk_lt HL3.out.rb
     have lc:=blk_cell HL3.out.lb 0
     have ll:=blk_lt HL3.out.lb
     have rl:=blk_lt HL3.out.rd
     have rc2:=blk_cell HL3.out.rd 2
     simp only [List.getElem?_toArray,List.getElem?_cons_zero,List.getElem?_cons_succ] at r0 lc rc2
     have hbs:=blk_set HL3.out.rb 0 (.slice Au es.length cu)
     have k2:=blk_cell hbs 0
     simp only [List.setIfInBounds_toArray,List.set_cons_zero,List.getElem?_toArray,List.getElem?_cons_zero] at k2
     have HTU:Hid (Turned [w.heap.size] w3 (w3.setCell ⟨w.heap.size,0,none⟩ (.slice Au es.length cu))):=(Turned.refl [w.heap.size] w3).setCell (by simp) _
     have hq5:=HTU.out.kept HL3.out.rd (by have:=HL3.out.ql;simp;omega)
     have HQ5:=Lib.hid hq5
     have HRW:=Lib.hid (ERow.base (HL3.out.row.turned HTU.out (fun g hg hm=>by have h1:=(HL3.out.row.lt g hg).1;have h3:g = w.heap.size:=(by simpa using hm);omega)) (show w.heap.size ≤ w.heap.size + 2 by omega))
     have HTW:Hid (Turned (q :: allB t M0) w (w3.setCell ⟨w.heap.size,0,none⟩ (.slice Au es.length cu))):=tur_set HL3.out.tur (Nat.le_refl _) _
     clear hbs hq5
     go_wp2_with fail
     refine bodyPost_ret (v:=.agg #[.slice Au es.length cu]) (by simp [results,Tryz.results48,go_sem,k2]) rfl ?_
     exact ⟨_,es,_,rfl,HRW.out,HQ5.out,HCX.out,HTW.out,hel⟩
    ·rw [if_neg h128] at HDD
     have hRR:=HDD.out
     have d8:decide ((128:Int) < (F.nodes.length:Int)) = false:=decide_eq_false (by omega)
     clear HDD h128
     go_wp2_with fail
     refine HCT.out.mono ?_;rintro e w2 ⟨rfl,rfl⟩
     clear HCT t0 tl
     subst hRR
     clear rc0 rc1 rc2 rl lc lf ll
     have r0:=blk_cell HL2.out.rb 0
     have rf:=blk_free HL2.out.rb 0
     have lr:=blk_lt HL2.out.rb
     have lc:=blk_cell HL2.out.lb 0
     have ll:=blk_lt HL2.out.lb
     have rl:=blk_lt HL2.out.rd
     have rc2:=blk_cell HL2.out.rd 2
     simp only [List.getElem?_toArray,List.getElem?_cons_zero,List.getElem?_cons_succ] at r0 lc rc2
     have hbs:=blk_set HL2.out.rb 0 (.slice Au es.length cu)
     have k2:=blk_cell hbs 0
     simp only [List.setIfInBounds_toArray,List.set_cons_zero,List.getElem?_toArray,List.getElem?_cons_zero] at k2
     have HTU:Hid (Turned [w.heap.size] w2 (w2.setCell ⟨w.heap.size,0,none⟩ (.slice Au es.length cu))):=(Turned.refl [w.heap.size] w2).setCell (by simp) _
     have hq5:=HTU.out.kept HL2.out.rd (by have:=HL2.out.ql;simp;omega)
     have HQ5:=Lib.hid hq5
     have HRW:=Lib.hid (ERow.base (HL2.out.row.turned HTU.out (fun g hg hm=>by have h1:=(HL2.out.row.lt g hg).1;have h3:g = w.heap.size:=(by simpa using hm);omega)) (show w.heap.size ≤ w.heap.size + 2 by omega))
     have HTW:Hid (Turned (q :: allB t M0) w (w2.setCell ⟨w.heap.size,0,none⟩ (.slice Au es.length cu))):=tur_set HL2.out.tur (Nat.le_refl _) _
     clear hbs hq5
     go_wp2_with fail
     refine bodyPost_ret (v:=.agg #[.slice Au es.length cu]) (by simp [results,Tryz.results48,go_sem,k2]) rfl ?_
     exact ⟨_,_,G,M,rfl,HRW.out,HQ5.out,(HT2.out.turnS HTU.out (fun g hg hm=>by
      have h3:g = w.heap.size:=by simpa using hg
      exact tree_lay HT2.out.tr HL2.out.rb (h3 ▸ hm))).le hel,HTW.out,hel⟩
   rw [if_neg hn0] at HDD
   have hb0:((n:Int) == 0) = false:=by rw [beq_eq_false_iff_ne];omega
   by_cases h5:5 < n
   ·rw [if_pos h5] at HDD
    have hRR:=HDD.out
    have d5:decide ((5:Int) < (n:Int)) = true:=decide_eq_true (by omega)
    clear HDD h5
    go_wp2_with fail
    refine (fault_live q s (b + 1) bd 1302 b _ HL2.out.rd).mono ?_;rintro e w3 ⟨rfl,hq,ht⟩
    have HL3:=Lib.hid (HL2.out.turn hq ht)
    clear rc0 rc1 rc2 rl lc lf ll
    clear hq ht HL2
    have rc0:=blk_cell HL3.out.rd 0
    have rc1:=blk_cell HL3.out.rd 1
    have rc2:=blk_cell HL3.out.rd 2
    have rl:=blk_lt HL3.out.rd
    have lc:=blk_cell HL3.out.lb 0
    have lf:=blk_free HL3.out.lb 0
    have ll:=blk_lt HL3.out.lb
    simp only [List.getElem?_toArray,List.getElem?_cons_zero,List.getElem?_cons_succ] at rc0 rc1 rc2 lc
    subst hRR
    clear HT2
    have HCX:=Lib.hid (show (1302:Int) ≠ 0 by decide)
    clear rc0 rc1 rc2 rl lc lf ll
    have r0:=blk_cell HL3.out.rb 0
    have rf:=blk_free HL3.out.rb 0
    have lr:=blk_lt HL3.out.rb
    have lc:=blk_cell HL3.out.lb 0
    have ll:=blk_lt HL3.out.lb
    have rl:=blk_lt HL3.out.rd
    have rc2:=blk_cell HL3.out.rd 2
    simp only [List.getElem?_toArray,List.getElem?_cons_zero,List.getElem?_cons_succ] at r0 lc rc2
    have hbs:=blk_set HL3.out.rb 0 (.slice Au es.length cu)
    have k2:=blk_cell hbs 0
    simp only [List.setIfInBounds_toArray,List.set_cons_zero,List.getElem?_toArray,List.getElem?_cons_zero] at k2
    have HTU:Hid (Turned [w.heap.size] w3 (w3.setCell ⟨w.heap.size,0,none⟩ (.slice Au es.length cu))):=(Turned.refl [w.heap.size] w3).setCell (by simp) _
    have hq5:=HTU.out.kept HL3.out.rd (by have:=HL3.out.ql;simp;omega)
    have HQ5:=Lib.hid hq5
    have HRW:=Lib.hid (ERow.base (HL3.out.row.turned HTU.out (fun g hg hm=>by have h1:=(HL3.out.row.lt g hg).1;have h3:g = w.heap.size:=(by simpa using hm);omega)) (show w.heap.size ≤ w.heap.size + 2 by omega))
    have HTW:Hid (Turned (q :: allB t M0) w (w3.setCell ⟨w.heap.size,0,none⟩ (.slice Au es.length cu))):=tur_set HL3.out.tur (Nat.le_refl _) _
    clear hbs hq5
    go_wp2_with fail
    refine bodyPost_ret (v:=.agg #[.slice Au es.length cu]) (by simp [results,Tryz.results48,go_sem,k2]) rfl ?_
    exact ⟨_,es,_,rfl,HRW.out,HQ5.out,HCX.out,HTW.out,hel⟩
   rw [if_neg h5] at HDD
   have d5:decide ((5:Int) < (n:Int)) = false:=decide_eq_false (by omega)
   have hn5:n ≤ 5:=by omega
   by_cases h256:256 ≤ es.length
   ·rw [if_pos h256] at HDD
    have hRR:=HDD.out
    have d6:((es.length:Int) == 256) = true:=by rw [beq_iff_eq];omega
    clear HDD h256
    go_wp2_with fail
    refine (fault_live q s (b + 1) bd 1309 b _ HL2.out.rd).mono ?_;rintro e w3 ⟨rfl,hq,ht⟩
    have HL3:=Lib.hid (HL2.out.turn hq ht)
    clear rc0 rc1 rc2 rl lc lf ll
    clear hq ht HL2
    have rc0:=blk_cell HL3.out.rd 0
    have rc1:=blk_cell HL3.out.rd 1
    have rc2:=blk_cell HL3.out.rd 2
    have rl:=blk_lt HL3.out.rd
    have lc:=blk_cell HL3.out.lb 0
    have lf:=blk_free HL3.out.lb 0
    have ll:=blk_lt HL3.out.lb
    simp only [List.getElem?_toArray,List.getElem?_cons_zero,List.getElem?_cons_succ] at rc0 rc1 rc2 lc
    subst hRR
    clear HT2
    have HCX:=Lib.hid (show (1309:Int) ≠ 0 by decide)
    clear rc0 rc1 rc2 rl lc lf ll
    have r0:=blk_cell HL3.out.rb 0
    have rf:=blk_free HL3.out.rb 0
    have lr:=blk_lt HL3.out.rb
    have lc:=blk_cell HL3.out.lb 0
    have ll:=blk_lt HL3.out.lb
    have rl:=blk_lt HL3.out.rd
    have rc2:=blk_cell HL3.out.rd 2
    simp only [List.getElem?_toArray,List.getElem?_cons_zero,List.getElem?_cons_succ] at r0 lc rc2
    have hbs:=blk_set HL3.out.rb 0 (.slice Au es.length cu)
    have k2:=blk_cell hbs 0
    simp only [List.setIfInBounds_toArray,List.set_cons_zero,List.getElem?_toArray,List.getElem?_cons_zero] at k2
    have HTU:Hid (Turned [w.heap.size] w3 (w3.setCell ⟨w.heap.size,0,none⟩ (.slice Au es.length cu))):=(Turned.refl [w.heap.size] w3).setCell (by simp) _
    have hq5:=HTU.out.kept HL3.out.rd (by have:=HL3.out.ql;simp;omega)
    have HQ5:=Lib.hid hq5
    have HRW:=Lib.hid (ERow.base (HL3.out.row.turned HTU.out (fun g hg hm=>by have h1:=(HL3.out.row.lt g hg).1;have h3:g = w.heap.size:=(by simpa using hm);omega)) (show w.heap.size ≤ w.heap.size + 2 by omega))
    have HTW:Hid (Turned (q :: allB t M0) w (w3.setCell ⟨w.heap.size,0,none⟩ (.slice Au es.length cu))):=tur_set HL3.out.tur (Nat.le_refl _) _
    clear hbs hq5
    go_wp2_with fail
    refine bodyPost_ret (v:=.agg #[.slice Au es.length cu]) (by simp [results,Tryz.results48,go_sem,k2]) rfl ?_
    exact ⟨_,es,_,rfl,HRW.out,HQ5.out,HCX.out,HTW.out,hel⟩
   rw [if_neg h256] at HDD
   have d6:((es.length:Int) == 256) = false:=by rw [beq_eq_false_iff_ne];omega
   obtain ⟨A2,c2,he2,hin,hc2⟩:=HL2.out.row.ein
   have hAc:A2 = Au ∧ c2 = cu:=by simp at he2;exact ⟨he2.1.symm,he2.2.symm⟩
   obtain ⟨rfl,rfl⟩:=hAc
   have HEN:=Lib.hid (rentry_any q B t F G M s (b + 1) n bd es A2 c2 w2 HL2.out.rd HT2.out.tr (tree_rd HT2.out.tr HL2.out.rd) HT2.out.rel HT2.out.sk (by have:=HT2.out.len;omega) h1' hs hin hc2 (fun g o hA=>by
    have h1:=HL2.out.row.lt g (by simp [Value.ownBlock,hA])
    have h2:=HL2.out.ql
    omega) hpl)
   clear hin he2
   go_wp2_with fail
   refine HEN.out.mono ?_
   intro e w3 hp
   clear HEN
   cases hG:entG s n (b + 1) es F with
   | error p =>
    rw [hG] at hp HDD
    simp only at HDD
    obtain ⟨x,a',rfl,hq,hp2,ht⟩:=hp
    have hRR:=HDD.out
    have HL3:=Lib.hid (HL2.out.turn hq ht)
    have hnw:=blk_new w3 (entO x)
    have HL4:=Lib.hid (HL3.out.below ((Below.refl _ _).alloc (Nat.le_refl _) (entO x)))
    have hc0:(p.2 == 0) = false:=beq_eq_false_iff_ne.2 hp2
    have HP2:=Lib.hid hp2
    clear rc0 rc1 rc2 rl lc lf ll
    clear hq ht HL2 HL3 HT2 HDD hG hnw hp2
    go_upto_region 18 with fail
    change Code.wp _ _ _ _ (w3.alloc (entO x))
    generalize (w3.alloc (entO x)) = w4 at *
    generalize w3.heap.size = g8 at *
    have rc0:=blk_cell HL4.out.rd 0
    have rc1:=blk_cell HL4.out.rd 1
    have rc2:=blk_cell HL4.out.rd 2
    have rl:=blk_lt HL4.out.rd
    have lc:=blk_cell HL4.out.lb 0
    have lf:=blk_free HL4.out.lb 0
    have ll:=blk_lt HL4.out.lb
    simp only [List.getElem?_toArray,List.getElem?_cons_zero,List.getElem?_cons_succ] at rc0 rc1 rc2 lc
    go_wp2_with fail
    go_roundg gk
    case rel=>exact ⟨a',es,p.2,p.1,_,hel,HL4,.inl ⟨HP2.out,⟨p.1,rfl,hRR.symm⟩⟩⟩
    case measure=>omega
   | ok p =>
   obtain ⟨⟨x,F'⟩,b'⟩:=p
   rw [hG] at hp HDD
   simp only at HDD
   obtain ⟨bd',rfl,hq,ht⟩:=hp
   obtain ⟨hcl,hx0,hx140,hbb,hbs,hF',hxk⟩:=entG_path hG (by omega) (by omega)
   clear hxk
   have HL3:=Lib.hid (HL2.out.turn hq ht)
   have HT3:=Lib.hid (HT2.out.turn HL2.out.rd ht)
   have hnw:=blk_new w3 (entO x)
   have HL4:=Lib.hid (HL3.out.below ((Below.refl _ _).alloc (Nat.le_refl _) (entO x)))
   have HT4:=Lib.hid (HT3.out.below ((Below.refl _ _).alloc (Nat.le_refl _) (entO x)))
   have HXP:=Lib.hid (And.intro hcl hx0)
   clear rc0 rc1 rc2 rl lc lf ll
   have HOW:=Lib.hid (fun k hk=>(HL3.out.row.lt k hk).2)
   have HFX:=Lib.hid hF'
   clear hq ht HL2 HL3 HT2 HT3 hG hcl hx0 hF'
   go_upto_region 18 with fail
   change Code.wp _ _ _ _ (w3.alloc (entO x))
   generalize (w3.alloc (entO x)) = w4 at *
   generalize w3.heap.size = g8 at *
   have rc0:=blk_cell HL4.out.rd 0
   have rc1:=blk_cell HL4.out.rd 1
   have rc2:=blk_cell HL4.out.rd 2
   have rl:=blk_lt HL4.out.rd
   have lc:=blk_cell HL4.out.lb 0
   have lf:=blk_free HL4.out.lb 0
   have ll:=blk_lt HL4.out.lb
   simp only [List.getElem?_toArray,List.getElem?_cons_zero,List.getElem?_cons_succ] at rc0 rc1 rc2 lc
   have x0:=blk_cell hnw 0
   have x1:=blk_cell hnw 1
   have x2:=blk_cell hnw 2
   have x3:=blk_cell hnw 3
   have xl:=blk_lt hnw
   simp only [entO,List.getElem?_toArray,List.getElem?_cons_zero,List.getElem?_cons_succ] at x0 x1 x2 x3
   have hbo:Below w4.heap.size w4 (w4.alloc (entO x)):=(Below.refl _ _).alloc (Nat.le_refl _) _
   have hql4:=HL4.out.ql
   have hlr4:=blk_lt HL4.out.rb
   obtain ⟨g2,cap2,W5,hrun,hrow5,ht5⟩:=(HL4.out.row.below hbo).app (blk_new w4 (entO x)) (by omega) (by simp;omega)
   have hown:∀ k ∈ (Value.slice A2 es.length c2).ownBlock.toList,w.heap.size + 2 ≤ k ∧ k < w4.heap.size:=fun k hk=>HL4.out.row.lt k hk
   have hlb5:W5.heap[w.heap.size + 1]? = some (.cells #[.slice A2 es.length c2] 44 (0,0)):=ht5.kept (blk_old HL4.out.lb _) (fun hm=>by have:=(hown _ hm).1;omega)
   have hg85:W5.heap[g8]? = some (entO x):=ht5.kept (blk_old hnw _) (fun hm=>by have:=HOW.out g8 hm;omega)
   have hqo:∀ k ∈ (Value.slice A2 es.length c2).ownBlock.toList,k ≠ q ∧ k ≠ w.heap.size:=fun k hk=>by have:=(hown k hk).1;omega
   have hrd5:=ht5.kept (blk_old HL4.out.rd _) (fun hm=>(hqo _ hm).1 rfl)
   have hrb5:=ht5.kept (blk_old HL4.out.rb _) (fun hm=>(hqo _ hm).2 rfl)
   have htu5:Turned (q :: allB t M0) w W5:=tur_mix (HL4.out.tur.trans (Turned.of_below hbo)) ht5 (fun g hg=>.inr (by have:=(hown g hg).1;omega))
   have hty5:TY w B t M0 es.length F G M W5:=(HT4.out.below hbo).turnS ht5 (fun g hg=>tree_row (HT4.out.tr) HL4.out.row g hg)
   have hts:Turned [w.heap.size + 1] W5 (W5.setCell ⟨w.heap.size + 1,0,none⟩ (.slice (some ⟨g2,0,none⟩) (es.length + 1) cap2)):=(Turned.refl _ _).setCell (by simp) _
   have HL6:Hid (LY w q B t M0 s b' 0 bd' (es ++ [x]) (.slice (some ⟨g2,0,none⟩) (es.length + 1) cap2) (W5.setCell ⟨w.heap.size + 1,0,none⟩ (.slice (some ⟨g2,0,none⟩) (es.length + 1) cap2))):=
    ⟨hts.kept hrd5 (by simp;omega),by have:=blk_set hlb5 0 (.slice (some ⟨g2,0,none⟩) (es.length + 1) cap2);rw [this];rfl,hts.kept hrb5 (by simp),hrow5.turned hts (fun g hg hm=>by have h1:=(hrow5.lt g hg).1;have h3:g = w.heap.size + 1:=(by simpa using hm);omega),tur_mix htu5 hts (by simp),hql4⟩
   have HT6:Hid (TY w B t M0 es.length F G M (W5.setCell ⟨w.heap.size + 1,0,none⟩ (.slice (some ⟨g2,0,none⟩) (es.length + 1) cap2))):=hty5.turnS hts (fun g hg=>by
    have h3:g = w.heap.size + 1:=(by simpa using hg)
    exact h3 ▸ tree_lay hty5.tr hlb5)
   have hnl8:g8 ≠ w.heap.size + 1:=fun e=>by
    have h1:=hg85
    rw [e,hlb5] at h1
    simp [entO] at h1
   have HX6:=Lib.hid (hts.kept hg85 (by simpa using hnl8))
   have HRUN:=Lib.hid hrun
   have lc5:=blk_cell hlb5 0
   have lf5:=blk_free hlb5 0
   have ll5:=blk_lt hlb5
   simp only [List.getElem?_toArray,List.getElem?_cons_zero] at lc5
   clear hrun hrow5 ht5 hown hlb5 hg85 hqo hrd5 hrb5 htu5 hty5 hts hbo HT4 HOW hlr4 hql4
   go_upto_region 19 with fail
   clear HL4 hnw
   go_upto_region 20 with (at_builtin;refine reg.wpList_append rfl rfl rfl rfl rfl HRUN.out ?_)
   change Code.wp _ _ _ _ (W5.setCell ⟨w.heap.size + 1,0,none⟩ (.slice (some ⟨g2,0,none⟩) (es.length + 1) cap2))
   generalize (W5.setCell ⟨w.heap.size + 1,0,none⟩ (.slice (some ⟨g2,0,none⟩) (es.length + 1) cap2)) = w6 at *
   clear HRUN lc5 lf5 ll5 x0 x1 x2 x3 xl
   clear rc0 rc1 rc2 rl lc lf ll
   have x0:=blk_cell HX6.out 0
   have x1:=blk_cell HX6.out 1
   have x2:=blk_cell HX6.out 2
   have x3:=blk_cell HX6.out 3
   have xl:=blk_lt HX6.out
   simp only [entO,List.getElem?_toArray,List.getElem?_cons_zero,List.getElem?_cons_succ] at x0 x1 x2 x3
   obtain ⟨qs,nm,hg,hpe⟩:=doc.clean_split x.path HXP.out.1 HXP.out.2
   have HPU:=Lib.hid (doc.Put_any HT6.out.rel HT6.out.tr (by have:=HT6.out.len;omega) x qs nm hg hpe (by omega))
   clear hg hpe HXP
   go_wp2_with fail
   refine HPU.out.mono ?_
   obtain ⟨GX,hGX⟩:=HT6.out.some HFX.out
   rintro r w7 (⟨hap,rfl,hb⟩ | ⟨G2,M2,hap,hr2,rfl,ht2,htur,hnew,hm2⟩)
   ·rw [hGX] at hap;cases hap
   ·have HTR:=HT6.out.tr
    have HT7:=Lib.hid (HT6.out.put HFX.out hap hr2 ht2 hnew (by have:=blk_lt HL6.out.rb;omega) hm2)
    have HL7:Hid (LY w q B t M0 s b' 0 bd' (es ++ [x]) (.slice (some ⟨g2,0,none⟩) (es.length + 1) cap2) w7):=
     ⟨htur.kept HL6.out.rd (tree_rd HTR HL6.out.rd),htur.kept HL6.out.lb (tree_lay HTR HL6.out.lb),htur.kept HL6.out.rb (tree_lay HTR HL6.out.rb),HL6.out.row.turned htur (tree_row HTR HL6.out.row),tur_mix HL6.out.tur htur (fun g hg=>(HT6.out.new g hg).imp (fun h=>List.mem_cons_of_mem _ h) id),HL6.out.ql⟩
    have HDX:=Lib.hid HDD.out
    clear hap hr2 ht2 htur hnew hm2 HTR HPU HL6 HT6 HFX HX6 x0 x1 x2 x3 xl hGX HDD
    go_wp2_with fail
    go_roundg gk
    case rel=>exact ⟨b',es ++ [x],0,bd',_,by rw [List.length_append];simp;omega,HL7,.inr ⟨rfl,hbs,by omega,fun y hy=>by
     rcases List.mem_append.1 hy with h | h
     ·exact hpl y h
     ·rw [List.mem_singleton.1 h];omega,_,G2,M2,by rw [List.length_append];exact HT7,HDX⟩⟩
    case measure=>omega
end Go.Proofs.YtifhnpkapgaboaaGreat.arch
