/-
  Proved: the document's tree: an entry goes out of a node. Conditions: as each theorem says.
-/
import Derived.Test.YtifhnpkapgaboaaGreatPj31
import Derived.Laws.OwnMore
set_option linter.unusedVariables false
set_option linter.unusedSimpArgs false
namespace Go.Proofs.YtifhnpkapgaboaaGreat.doc
open Go Go.RowKit
open heap
open path (sv str_size SRow own_kept own_base add0)
set_option maxRecDepth 100000
section
variable {α:Type} {f:α → Value} {e:TypeId}
variable {P:Program} {t:TypeId} {i0:TypeInfo} {z:Value} {bytes:Nat}
theorem app_keep (ht:P.underlying t = some (.slice e)) (hi:P.info? e = some i0) (hz:i0.zero = some z) (hs:i0.size = 1) (hb:i0.bytes = bytes) (hzs:z.cells.size = 1) (hb16:bytes ≤ 16) (h1:∀ x,(f x).oneCell' = true)
  (w:World) (base:Nat) (v:Value) (xs:List α) (h:ARow f e w base v xs) (u:Value) (ys:List α) (hu:SrcR f w u ys) (hbase:base ≤ w.heap.size) (hv:∃ g c,v = .slice (some ⟨g,0,none⟩) xs.length c) (hn:xs.length + ys.length ≤ 2000000000) :
  ∃ v' w',(Builtin.append_ #[t,t] t #[v,u]).run P w = .ok v' w' ∧ ARow f e w' base v' (xs ++ ys) ∧ Below base w w' ∧ (∀ v2,ARow f e w base v2 xs → ARow f e w' base v2 xs) ∧ (∀ g:Nat,w.heap[g]? = some (.cells #[] e (0,0)) → w'.heap[g]? = some (.cells #[] e (0,0))) ∧ (∃ a c,v' = .slice a (xs.length + ys.length) c):=by
 obtain ⟨g,c,rfl⟩:=hv
 obtain ⟨hl,⟨e1,h0⟩ | ⟨g',c',cur,e1,h2,h3,h4,h5,h6,h7⟩⟩:=id h
 ·cases e1
 simp only [Value.slice.injEq,Option.some.injEq,Addr.mk.injEq] at e1
 obtain ⟨⟨rfl,-,-⟩,-,rfl⟩:=e1
 by_cases hy:ys = []
 ·subst hy
  refine ⟨_,w,?_,by rw [List.append_nil];exact h,Below.refl _ _,fun _ h=>h,fun _ h=>h,_,_,rfl⟩
  rcases hu with ⟨c2,rfl,-⟩ | ⟨ad,c2,rfl,-⟩
  ·exact run_append_nothing w t t t e i0 ht hi _ _ _ h4 _ (Src.ofNil w ht c2)
  ·exact run_append_nothing w t t t e i0 ht hi _ _ _ h4 _ (Src.ofSlice w ht ad 0 c2 [] (by simp) (fun j u hu=>by simp at hu) (fun u hu=>by cases hu))
 ·rcases hu with ⟨c2,-,e2⟩ | ⟨ad,c2,rfl,hcl⟩
  ·exact absurd e2 hy
  have hpos:0 < ys.length:=List.length_pos_iff.2 hy
  have hnews:∀ j u,(ys.map f)[j]? = some u → w.cell? (ad.add j) = some u:=fun j u hu=>by
   rw [List.getElem?_map] at hu
   cases hq:ys[j]? with
   | none=>simp [hq] at hu
   | some q =>
    simp [hq] at hu
    rw [← hu]
    exact hcl j q hq
  have h1':∀ u ∈ ys.map f,u.oneCell' = true:=fun u hu=>by obtain ⟨q,-,rfl⟩:=List.mem_map.1 hu;exact h1 q
  by_cases hroom:xs.length + ys.length ≤ c
  ·obtain ⟨w',hr,hown,hgr⟩:=run_append_fits (P:=P) w base t t e i0 1 ht hi hs g xs.length c _ h ad ys.length c2 (ys.map f) (by simp) hnews h1' hroom
   have hrow:ARow f e w' base (.slice (some ⟨g,0,none⟩) (xs.length + ys.length) c) (xs ++ ys):=by
    unfold ARow
    rw [List.length_append,List.map_append]
    exact hown
   refine ⟨_,w',hr,hrow,⟨hgr.os,hgr.tape,hgr.output,hgr.size,fun k hk=>hgr.block k (by omega) (fun e2=>by simp at e2;omega)⟩,fun v2 hv2 => ?_,fun k hk => ?_,_,_,rfl⟩
   ·obtain ⟨hl2,⟨e3,h03⟩ | ⟨g3,c3,cur3,e3,k2,k3,k4,k5,k6,k7⟩⟩:=id hv2
    ·exact ⟨hl2,.inl ⟨e3,h03⟩⟩
    ·by_cases hg3:g3 = g
     ·subst hg3
      rw [h3] at k3
      simp only [Option.some.injEq,Obj.cells.injEq] at k3
      have:c3 = c:=by rw [← k3.1] at k6;omega
      subst this
      have:=hrow.take xs.length (by simp)
      rw [List.take_left] at this
      rw [e3]
      exact this
     ·exact hv2.kept fun k o hk ho _=>by
       rw [e3] at hk
       have:g3 = k:=by simpa [Value.ownBlock] using hk
       subst this
       rw [hgr.block g3 (blk_lt ho) (fun e4=>hg3 (by simpa using e4))]
       exact ho
   ·rw [hgr.block k (blk_lt hk) (fun e4 => ?_)]
    ·exact hk
    ·have:k = g:=by simpa using e4
     rw [this,h3] at hk
     simp only [Option.some.injEq,Obj.cells.injEq] at hk
     rw [hk.1] at h6
     simp at h6
     omega
  ·have hby:(xs.length + ys.length) * bytes ≤ 140737488355328:=by
    have:(xs.length + ys.length) * bytes ≤ 2000000000 * 16:=Nat.mul_le_mul (by omega) hb16
    omega
   obtain ⟨v',w',hr,h2',h3'⟩:=run_append_arg_grows (P:=P) (w:=w) t t e i0 z 1 bytes ht hi hz hs hb hzs (by decide) ⟨g,0,none⟩ xs.length c (xs.map f) (by simp) (fun j u hu=>by
     rw [List.getElem?_map] at hu
     cases hq:xs[j]? with
     | none=>simp [hq] at hu
     | some q =>
      simp [hq] at hu
      rw [← hu,add0]
      exact h.cell hq) ad ys.length c2 (ys.map f) (by simp) hnews (by omega) (by unfold maxLen;omega) hby
   have hsame:∀ k,k < w.heap.size → w'.heap[k]? = w.heap[k]?:=fun k hk=>h3'.block k hk (by simp)
   refine ⟨v',w',hr,?_,⟨h3'.os,h3'.tape,h3'.output,h3'.size,fun k hk=>hsame k (by omega)⟩,fun v2 hv2=>hv2.kept fun k o hk ho _=>(hsame k (blk_lt ho)).trans ho,fun k hk=>(hsame k (blk_lt hk)).trans hk,?_⟩
   ·unfold ARow
    rw [List.length_append,List.map_append]
    obtain ⟨hl3,⟨e3,h03⟩ | ⟨g3,c3,cur3,e3,k2,k3⟩⟩:=h2'
    ·exact ⟨hl3,.inl ⟨e3,h03⟩⟩
    ·exact ⟨hl3,.inr ⟨g3,c3,cur3,e3,Nat.le_trans hbase k2,k3⟩⟩
   ·obtain ⟨hl3,⟨e3,h03⟩ | ⟨g3,c3,cur3,e3,k2,k3⟩⟩:=h2'
    ·omega
    ·exact ⟨_,_,e3⟩
end
theorem keep_ss (w:World) (base:Nat) (v:Value) (xs:List Nm) (h:SRow w base v xs) (u:Value) (ys:List Nm) (hu:SrcR (sv:Nm → Value) w u ys) (hbase:base ≤ w.heap.size) (hv:∃ g c,v = .slice (some ⟨g,0,none⟩) xs.length c) (hn:xs.length + ys.length ≤ 2000000000) :
  ∃ v' w',(Builtin.append_ #[59,59] 59 #[v,u]).run Tryz.prog w = .ok v' w' ∧ SRow w' base v' (xs ++ ys) ∧ Below base w w' ∧ (∀ v2,SRow w base v2 xs → SRow w' base v2 xs) ∧ (∀ g:Nat,w.heap[g]? = some (.cells #[] 9 (0,0)) → w'.heap[g]? = some (.cells #[] 9 (0,0))) ∧ (∃ a c,v' = .slice a (xs.length + ys.length) c):=by
 obtain ⟨i0,hi,hz0,hz1,hz2⟩:=info_parts infoS'
 exact app_keep Tryz.underlying59 hi hz0 hz1 hz2 rfl (by decide) (fun _=>rfl) w base v xs h u ys hu hbase hv hn
theorem keep_kk (w:World) (base:Nat) (v:Value) (xs:List Nat) (h:KRow w base v xs) (u:Value) (ys:List Nat) (hu:SrcR pV w u ys) (hbase:base ≤ w.heap.size) (hv:∃ g c,v = .slice (some ⟨g,0,none⟩) xs.length c) (hn:xs.length + ys.length ≤ 2000000000) :
  ∃ v' w',(Builtin.append_ #[60,60] 60 #[v,u]).run Tryz.prog w = .ok v' w' ∧ KRow w' base v' (xs ++ ys) ∧ Below base w w' ∧ (∀ v2,KRow w base v2 xs → KRow w' base v2 xs) ∧ (∀ g:Nat,w.heap[g]? = some (.cells #[] 55 (0,0)) → w'.heap[g]? = some (.cells #[] 55 (0,0))) ∧ (∃ a c,v' = .slice a (xs.length + ys.length) c):=by
 obtain ⟨i0,hi,hz0,hz1,hz2⟩:=info_parts infoK'
 exact app_keep Tryz.underlying60 hi hz0 hz1 hz2 rfl (by decide) (fun _=>rfl) w base v xs h u ys hu hbase hv hn
structure DX {α:Type} (f:α → Value) (e:TypeId) (b B:Nat) (ys:List α) (j:Nat) (w1 w2:World):Prop where
 bel:Below B w1 w2 ∨ (j = 19 ∧ Turned [b] w1 w2)
 ext:j ≠ 16 → Turned (if j = 19 then [b] else []) w1 w2
 row:∀ v,ARow f e w1 B v ys → ARow f e w2 B v ys
 emp:∀ g:Nat,g ≠ b → w1.heap[g]? = some (.cells #[] e (0,0)) → w2.heap[g]? = some (.cells #[] e (0,0))
theorem dx_refl {α:Type} {f:α → Value} {e:TypeId} {b B j:Nat} {ys:List α} (w:World):DX f e b B ys j w w:=⟨.inl (Below.refl _ _),fun _=>Turned.refl _ _,fun _ h=>h,fun _ _ h=>h⟩
theorem dx_below {α:Type} {f:α → Value} {e:TypeId} {b B j:Nat} {ys:List α} {w1 w2:World} (hB:B ≤ w1.heap.size) (h:Below w1.heap.size w1 w2):DX f e b B ys j w1 w2:=
 ⟨.inl (h.mono hB),fun _=>Turned.of_below h,fun _ hr=>hr.kept (fun g o _ ho _=>blk_below ho h),fun _ _ hg=>blk_below hg h⟩
theorem dx_store {α:Type} {f:α → Value} {e:TypeId} {b B:Nat} {ys:List α} {w1 w2:World} (hb:b < B) (h:Turned [b] w1 w2):DX f e b B ys 19 w1 w2:=
 ⟨.inr ⟨rfl,h⟩,fun _=>by rw [if_pos rfl];exact h,fun _ hr=>hr.kept (fun g o hg ho _=>h.kept ho (fun hm=>by have:=(hr.lt hg).1;rw [List.mem_singleton.1 hm] at this;omega)),fun g hgb hg=>h.kept hg (fun hm=>hgb (List.mem_singleton.1 hm))⟩
theorem tur_bel {S:List Nat} {a w w':World} (h:Turned S a w) (hb:Below a.heap.size w w'):Turned S a w':=
 ⟨hb.os.trans h.os,hb.tape.trans h.tape,hb.output.trans h.output,Nat.le_trans h.size hb.size,fun k hk hn=>(hb.block k hk).trans (h.block k hk hn)⟩
set_option maxHeartbeats 4000000 in
theorem drop_any (base:Nat) (x:BN) (n:Nm) (q:Nat) (qid qkind qmode:Int) (qdata:Nm) (qnv qkv qup:Value) (w:World) (h:NodeAt w base x) (hyes:x.names[kidIx x.names n]? = some n) (hq:x.kids[kidIx x.names n]? = some q) (hlen:x.names.length = x.kids.length) (hsz:x.names.length ≤ 1000000000)
  (hqb:w.heap[q]? = some (bO qid qkind qmode qdata qnv qkv qup)) (hqn:q ∉ blks x) (hnd:(blks x).Nodup) :
  Calls Tryz.prog 106 #[pV x.b,sv n] w fun e w'=>e = .returned (.tuple #[]) ∧ ∃ nv kv,NodeAt w' base { x with names:=x.names.eraseIdx (kidIx x.names n),kids:=x.kids.eraseIdx (kidIx x.names n),nv:=nv,kv:=kv } ∧
   (∀ g,nv.ownBlock = some g → w.heap.size ≤ g) ∧ (∀ g,kv.ownBlock = some g → w.heap.size ≤ g) ∧ (∀ g,nv.ownBlock = some g → kv.ownBlock ≠ some g) ∧ Turned [q,x.b] w w':=by
 have HKA:=Lib.hid ((kid_any base x n w h hlen hsz).mono fun e w' ⟨hk,hw⟩=>(show e = Ending.returned (.tuple #[pV q,.int .i64 (kidIx x.names n)]) ∧ w = w' from ⟨by
  rcases hk with ⟨c,h1,h2,h3⟩ | ⟨h1,-⟩
  ·rw [hq] at h2;rw [h3,← Option.some.inj h2]
  ·exact absurd hyes h1,hw⟩))
 obtain ⟨id,up,hb⟩:=h.blk
 have hml1:kidIx x.names n < x.names.length:=(List.getElem?_eq_some_iff.1 hyes).1
 have hxq:x.b ≠ q:=fun e=>hqn (mem_blks.2 (.inl e.symm))
 have fq:w.frozen? ⟨q,6,none⟩ = false:=blk_free hqb 6
 have cq:w.cell? ⟨q,6,none⟩ = some qup:=by rw [blk_cell hqb];rfl
 have q1:IntKind.i64.wrap (((kidIx x.names n:Nat):Int) + 1) = ((kidIx x.names n:Nat):Int) + 1:=IntWalk.i64_in _ (by omega)
 have q2:wrap64 (((kidIx x.names n:Nat):Int) + 1) = ((kidIx x.names n:Nat):Int) + 1:=IntWalk.wrap64_in _ (by omega)
 have hml:=kidIx_le x.names n
 have hmk:kidIx x.names n ≤ x.kids.length:=by omega
 have hmk1:kidIx x.names n < x.kids.length:=by omega
 obtain ⟨an,cn,en,hcn,hn1,hn2⟩:=row_shape ((srow_is _ _ _ _).1 h.ns)
 obtain ⟨ak,ck,ek,hck,hk1,hk2⟩:=row_shape ((krow_is _ _ _ _).1 h.ks)
 have hnbn:x.nv.ownBlock ≠ some x.b:=fun e=>(List.nodup_cons.1 hnd).1 (List.mem_append_left _ (Option.mem_toList.2 e))
 have hnbk:x.kv.ownBlock ≠ some x.b:=fun e=>(List.nodup_cons.1 hnd).1 (List.mem_append_right _ (Option.mem_toList.2 e))
 have hbx:x.b < w.heap.size:=blk_lt hb
 go_enter Tryz.func106,Tryz.ntmps106
 go_upto_region 2 with (go_at_call 64;refine HKA.out.mono ?_;rintro e' w2 ⟨rfl,rfl⟩)
 have hT2:Turned [q] w (w.setCell ⟨q,6,none⟩ (.pointer none)):=(Turned.refl _ _).setCell (by simp) _
 have hb2:(w.setCell ⟨q,6,none⟩ (.pointer none)).heap[x.b]? = some (bO id x.kind x.mode x.data x.nv x.kv up):=(blk_other hxq _ _).trans hb
 have hns2:SRow (w.setCell ⟨q,6,none⟩ (.pointer none)) base x.nv x.names:=h.ns.turned hT2 (fun g hg hm=>hqn (mem_blks.2 (.inr (.inl (by rw [← List.mem_singleton.1 hm];exact hg)))))
 have hks2:KRow (w.setCell ⟨q,6,none⟩ (.pointer none)) base x.kv x.kids:=h.ks.turned hT2 (fun g hg hm=>hqn (mem_blks.2 (.inr (.inr (by rw [← List.mem_singleton.1 hm];exact hg)))))
 have hs2:(w.setCell ⟨q,6,none⟩ (.pointer none)).heap.size = w.heap.size:=by simp [World.setCell]
 generalize w.setCell ⟨q,6,none⟩ (.pointer none) = w2 at *
 have hbx2:x.b < w2.heap.size:=by omega
 have HFR:=Lib.hid (fun W=>run_frontS an x.names.length cn (kidIx x.names n) (by omega) hn1 hn2 W)
 have HBA:Hid (∀ W,(Instr.sliceAt 59 (.slice an x.names.length cn) (some (.int .i64 (((kidIx x.names n:Nat):Int) + 1))) none none).run Tryz.prog W = .ok (backV an x.names.length cn (kidIx x.names n + 1)) W):=fun W=>run_backS an x.names.length cn (kidIx x.names n + 1) hml1 hcn W
 rw [en] at hnbn hb2 hns2
 have HB2:=Lib.hid hb2
 have HNR:Hid (∀ W,Turned [x.b] w2 W → SRow W base (.slice an x.names.length cn) x.names):=fun W hW=>hns2.turned hW (fun g hg hm=>hnbn ((List.mem_singleton.1 hm) ▸ hg))
 clear HKA hb fq cq hn1 hn2 hb2
 refine reg.region_eachG (by kernel_rfl) (DX (sv:Nm → Value) 9 x.b w2.heap.size (x.names.take (kidIx x.names n))) (fun w'=>Turned [x.b] w2 w') (fun ri v w'=>match ri with
   | 0=>v = pV x.b
   | 1=>∃ g1,v = .slice (some ⟨g1,0,none⟩) 0 0 ∧ w2.heap.size ≤ g1 ∧ w'.heap[g1]? = some (.cells #[] 9 (0,0))
   | 2=>v = pV x.b
   | 3=>v = .pointer (some ⟨x.b,0,none⟩)
   | 4=>v = .pointer (some ⟨x.b,4,none⟩)
   | 5=>v = .slice an x.names.length cn
   | 6=>v = .int .i64 (kidIx x.names n)
   | 7=>v = .slice an (kidIx x.names n) cn
   | 8=>SRow w' w2.heap.size v (x.names.take (kidIx x.names n)) ∧ (∃ g c,v = .slice (some ⟨g,0,none⟩) (x.names.take (kidIx x.names n)).length c)
   | 9=>v = pV x.b
   | 10=>v = .pointer (some ⟨x.b,0,none⟩)
   | 11=>v = .pointer (some ⟨x.b,4,none⟩)
   | 12=>v = .slice an x.names.length cn
   | 13=>v = .int .i64 (kidIx x.names n)
   | 14=>v = .int .i64 (((kidIx x.names n:Nat):Int) + 1)
   | 15=>v = backV an x.names.length cn (kidIx x.names n + 1)
   | 16=>SRow w' w2.heap.size v (x.names.take (kidIx x.names n) ++ x.names.drop (kidIx x.names n + 1)) ∧ (∃ a c,v = .slice a ((x.names.take (kidIx x.names n)).length + (x.names.drop (kidIx x.names n + 1)).length) c)
   | 17=>v = .pointer (some ⟨x.b,0,none⟩)
   | 18=>v = .pointer (some ⟨x.b,4,none⟩)
   | 19=>∃ u,w'.heap[x.b]? = some (bO id x.kind x.mode x.data u x.kv up) ∧ SRow w' w2.heap.size u (x.names.take (kidIx x.names n) ++ x.names.drop (kidIx x.names n + 1))
   | _=>True) (fun rk w'=>match rk with
   | 19=>w'.heap[x.b]? = some (bO id x.kind x.mode x.data (.slice an x.names.length cn) x.kv up)
   | _=>True) ?_ ?_ ?_ ?_ ?_ (by kernel_rfl) ?_ ?_
 ·exact (Turned.refl _ _).drew
 ·
  intro k
  split <;> first | trivial | (exact HB2.out)
 ·
  intro j w1 w2 h hx
  (rcases hx.bel with hbl | ⟨-,htl⟩ <;> first | exact tur_bel h hbl | exact h.trans htl)
 ·
  intro j i v w1 w2 hij hj hr h hx
  rcases i with _|_|_|_|_|_|_|_|_|_|_|_|_|_|_|_|_|_|_|_|i
  ·exact h
  ·(obtain ⟨g1,k1,k2,k3⟩:=h;exact ⟨g1,k1,k2,hx.emp g1 (by omega) k3⟩)
  ·exact h
  ·exact h
  ·exact h
  ·exact h
  ·exact h
  ·exact h
  ·exact ⟨hx.row v h.1,h.2⟩
  ·exact h
  ·exact h
  ·exact h
  ·exact h
  ·exact h
  ·exact h
  ·exact h
  ·exact ⟨SRow.turned h.1 (hx.ext (fun e=>hij e.symm)) (fun g hg' hm=>by have k3:=(World.ownsRow.lt h.1 g hg').1;split at hm <;> simp at hm;omega),h.2⟩
  ·exact h
  ·exact h
  ·exact (reg.last_no (by kernel_rfl) hij hj hr).elim
  ·trivial
 ·
  intro j k w1 w2 hkj h hx
  split at h <;> first | exact h | exact ((hx.bel.resolve_right (fun e=>hkj e.1.symm)).block x.b hbx2).trans h
 ·
  refine ⟨?_,?_,?_,?_,?_,?_,?_,?_,?_,?_,?_,?_,?_,?_,?_,?_,?_,?_,?_,?_,trivial⟩
  ·-- 0: slot 15:=Op.move t0
   intro ra w' hx hg hs
   have s0:ra.eval (.tmp 0) = pV x.b:=hs.1
   clear hs
   change Oper.wp _ _ ra w' _ _
   refine reg.wp_value (v:=pV x.b) (w':=w') ?_ ⟨_,rfl,dx_refl _,rfl⟩
   intro ρ rc rf rg re
   rw [re] at s0
   simp [execOp,go_sem,rc,rf,rg,s0] <;> first | omega | rfl | decide
  ·-- 1: slot 16:=Op.buildSlice 59 0 #[]
   intro ra w' hx hg hs
   clear hs
   change Oper.wp _ _ ra w' _ _
   refine reg.wp_value (v:=.slice (some ⟨w'.heap.size,0,none⟩) 0 0) (w':=w'.alloc (.cells #[] 9 (0,0))) ?_ ⟨_,rfl,dx_below hx.size ((Below.refl _ _).alloc (Nat.le_refl _) _),_,rfl,hx.size,blk_new _ _⟩
   intro ρ rc rf rg re
   simp [execOp,go_sem,rc,rf,rg] <;> first | omega | rfl | decide
  ·-- 2: slot 17:=Op.move t0
   intro ra w' hx hg hs
   have s0:ra.eval (.tmp 0) = pV x.b:=hs.1
   clear hs
   change Oper.wp _ _ ra w' _ _
   refine reg.wp_value (v:=pV x.b) (w':=w') ?_ ⟨_,rfl,dx_refl _,rfl⟩
   intro ρ rc rf rg re
   rw [re] at s0
   simp [execOp,go_sem,rc,rf,rg,s0] <;> first | omega | rfl | decide
  ·-- 3: slot 18:=Op.nilCheck t17
   intro ra w' hx hg hs
   have s17:ra.eval (.tmp 17) = pV x.b:=hs.1
   clear hs
   change Oper.wp _ _ ra w' _ _
   refine reg.wp_value (v:=.pointer (some ⟨x.b,0,none⟩)) (w':=w') ?_ ⟨_,rfl,dx_refl _,rfl⟩
   intro ρ rc rf rg re
   rw [re] at s17
   simp [execOp,go_sem,rc,rf,rg,s17] <;> first | omega | rfl | decide
  ·-- 4: slot 19:=Op.fieldAddr 62 t18 4
   intro ra w' hx hg hs
   have s18:ra.eval (.tmp 18) = .pointer (some ⟨x.b,0,none⟩):=hs.1
   clear hs
   change Oper.wp _ _ ra w' _ _
   refine reg.wp_value (v:=.pointer (some ⟨x.b,4,none⟩)) (w':=w') ?_ ⟨_,rfl,dx_refl _,rfl⟩
   intro ρ rc rf rg re
   rw [re] at s18
   simp [execOp,go_sem,rc,rf,rg,s18] <;> first | omega | rfl | decide
  ·-- 5: slot 20:=Op.load 59 t19
   intro ra w' hx hg hs
   have s19:ra.eval (.tmp 19) = .pointer (some ⟨x.b,4,none⟩):=hs.1
   clear hs
   change Oper.wp _ _ ra w' _ _
   have hc0:w'.cell? ⟨x.b,4,none⟩ = some (.slice an x.names.length cn):=by rw [blk_cell (hg 19 rfl)];rfl
   refine reg.wp_value (v:=.slice an x.names.length cn) (w':=w') ?_ ⟨_,rfl,dx_refl _,rfl⟩
   intro ρ rc rf rg re
   rw [re] at s19
   simp [execOp,go_sem,rc,rf,rg,s19,hc0] <;> first | omega | rfl | decide
  ·-- 6: slot 21:=Op.move t5
   intro ra w' hx hg hs
   have s5:ra.eval (.tmp 5) = .int .i64 (kidIx x.names n):=hs.1
   clear hs
   change Oper.wp _ _ ra w' _ _
   refine reg.wp_value (v:=.int .i64 (kidIx x.names n)) (w':=w') ?_ ⟨_,rfl,dx_refl _,rfl⟩
   intro ρ rc rf rg re
   rw [re] at s5
   simp [execOp,go_sem,rc,rf,rg,s5] <;> first | omega | rfl | decide
  ·-- 7: slot 22:=Op.slice 59 t20 none (some t21) none
   intro ra w' hx hg hs
   have s20:ra.eval (.tmp 20) = .slice an x.names.length cn:=hs.1
   have s21:ra.eval (.tmp 21) = .int .i64 (kidIx x.names n):=hs.2.1
   clear hs
   change Oper.wp _ _ ra w' _ _
   exact reg.wp_value (runs_slice rfl s20 rfl (congrArg some s21) (HFR.out w')) ⟨_,rfl,dx_refl _,rfl⟩
  ·-- 8: slot 23:=Op.call { builtin append,args := #[t16,t22],argTypes := #[59,59] }
   intro ra w' hx hg hs
   have s16:∃ g1,(ra.eval (.tmp 16)) = .slice (some ⟨g1,0,none⟩) 0 0 ∧ w2.heap.size ≤ g1 ∧ w'.heap[g1]? = some (.cells #[] 9 (0,0)):=hs.1
   have s22:ra.eval (.tmp 22) = .slice an (kidIx x.names n) cn:=hs.2.1
   clear hs
   change Oper.wp _ _ ra w' _ _
   obtain ⟨g1,hv,k2,k3⟩:=s16
   obtain ⟨v2,w3,hrun,hown,hbl,g2,c2,hsh⟩:=full_ss w' w2.heap.size g1 0 [] ⟨rfl,.inr ⟨g1,0,_,rfl,k2,k3,Nat.le_refl 0,by decide,rfl,rfl⟩⟩ _ _ (SrcR.whole (ARow.take ((srow_is _ _ _ _).1 (HNR.out w' hx)) (kidIx x.names n) hml)) hx.size (by simp;omega)
   exact reg.wp_value (reg.runs_append rfl rfl hv s22 hrun) ⟨_,rfl,dx_below hx.size hbl,hown,g2,c2,by rw [hsh];simp⟩
  ·-- 9: slot 24:=Op.move t0
   intro ra w' hx hg hs
   have s0:ra.eval (.tmp 0) = pV x.b:=hs.1
   clear hs
   change Oper.wp _ _ ra w' _ _
   refine reg.wp_value (v:=pV x.b) (w':=w') ?_ ⟨_,rfl,dx_refl _,rfl⟩
   intro ρ rc rf rg re
   rw [re] at s0
   simp [execOp,go_sem,rc,rf,rg,s0] <;> first | omega | rfl | decide
  ·-- 10: slot 25:=Op.nilCheck t24
   intro ra w' hx hg hs
   have s24:ra.eval (.tmp 24) = pV x.b:=hs.1
   clear hs
   change Oper.wp _ _ ra w' _ _
   refine reg.wp_value (v:=.pointer (some ⟨x.b,0,none⟩)) (w':=w') ?_ ⟨_,rfl,dx_refl _,rfl⟩
   intro ρ rc rf rg re
   rw [re] at s24
   simp [execOp,go_sem,rc,rf,rg,s24] <;> first | omega | rfl | decide
  ·-- 11: slot 26:=Op.fieldAddr 62 t25 4
   intro ra w' hx hg hs
   have s25:ra.eval (.tmp 25) = .pointer (some ⟨x.b,0,none⟩):=hs.1
   clear hs
   change Oper.wp _ _ ra w' _ _
   refine reg.wp_value (v:=.pointer (some ⟨x.b,4,none⟩)) (w':=w') ?_ ⟨_,rfl,dx_refl _,rfl⟩
   intro ρ rc rf rg re
   rw [re] at s25
   simp [execOp,go_sem,rc,rf,rg,s25] <;> first | omega | rfl | decide
  ·-- 12: slot 27:=Op.load 59 t26
   intro ra w' hx hg hs
   have s26:ra.eval (.tmp 26) = .pointer (some ⟨x.b,4,none⟩):=hs.1
   clear hs
   change Oper.wp _ _ ra w' _ _
   have hc0:w'.cell? ⟨x.b,4,none⟩ = some (.slice an x.names.length cn):=by rw [blk_cell (hg 19 rfl)];rfl
   refine reg.wp_value (v:=.slice an x.names.length cn) (w':=w') ?_ ⟨_,rfl,dx_refl _,rfl⟩
   intro ρ rc rf rg re
   rw [re] at s26
   simp [execOp,go_sem,rc,rf,rg,s26,hc0] <;> first | omega | rfl | decide
  ·-- 13: slot 28:=Op.move t5
   intro ra w' hx hg hs
   have s5:ra.eval (.tmp 5) = .int .i64 (kidIx x.names n):=hs.1
   clear hs
   change Oper.wp _ _ ra w' _ _
   refine reg.wp_value (v:=.int .i64 (kidIx x.names n)) (w':=w') ?_ ⟨_,rfl,dx_refl _,rfl⟩
   intro ρ rc rf rg re
   rw [re] at s5
   simp [execOp,go_sem,rc,rf,rg,s5] <;> first | omega | rfl | decide
  ·-- 14: slot 29:=Op.binOp BinOp.add 3 t28 (const (1:i64)) 3
   intro ra w' hx hg hs
   have s28:ra.eval (.tmp 28) = .int .i64 (kidIx x.names n):=hs.1
   clear hs
   change Oper.wp _ _ ra w' _ _
   refine reg.wp_value (v:=.int .i64 (((kidIx x.names n:Nat):Int) + 1)) (w':=w') ?_ ⟨_,rfl,dx_refl _,rfl⟩
   intro ρ rc rf rg re
   rw [re] at s28
   simp [execOp,go_sem,rc,rf,rg,s28,q1,q2] <;> first | omega | rfl | decide
  ·-- 15: slot 30:=Op.slice 59 t27 (some t29) none none
   intro ra w' hx hg hs
   have s27:ra.eval (.tmp 27) = .slice an x.names.length cn:=hs.1
   have s29:ra.eval (.tmp 29) = .int .i64 (((kidIx x.names n:Nat):Int) + 1):=hs.2.1
   clear hs
   change Oper.wp _ _ ra w' _ _
   exact reg.wp_value (runs_slice rfl s27 (congrArg some s29) rfl (HBA.out w')) ⟨_,rfl,dx_refl _,rfl⟩
  ·-- 16: slot 31:=Op.call { builtin append,args := #[t23,t30],argTypes := #[59,59] }
   intro ra w' hx hg hs
   have s23:SRow w' w2.heap.size (ra.eval (.tmp 23)) (x.names.take (kidIx x.names n)) ∧ (∃ g c,(ra.eval (.tmp 23)) = .slice (some ⟨g,0,none⟩) (x.names.take (kidIx x.names n)).length c):=hs.1
   have s30:ra.eval (.tmp 30) = backV an x.names.length cn (kidIx x.names n + 1):=hs.2.1
   clear hs
   change Oper.wp _ _ ra w' _ _
   obtain ⟨k1,g3,c3,hv3⟩:=s23
   obtain ⟨v2,w3,hrun,hown,hbl,hrw,hem,hsh⟩:=keep_ss w' w2.heap.size _ _ k1 _ _ (backV_src ((srow_is _ _ _ _).1 (HNR.out w' hx)) (kidIx x.names n + 1) hml1) hx.size ⟨g3,c3,hv3⟩ (by simp;omega)
   exact reg.wp_value (reg.runs_append rfl rfl rfl s30 hrun) ⟨_,rfl,⟨.inl hbl,(fun hh=>absurd rfl hh),hrw,(fun g _=>hem g)⟩,hown,hsh⟩
  ·-- 17: slot 32:=Op.nilCheck t15
   intro ra w' hx hg hs
   have s15:ra.eval (.tmp 15) = pV x.b:=hs.1
   clear hs
   change Oper.wp _ _ ra w' _ _
   refine reg.wp_value (v:=.pointer (some ⟨x.b,0,none⟩)) (w':=w') ?_ ⟨_,rfl,dx_refl _,rfl⟩
   intro ρ rc rf rg re
   rw [re] at s15
   simp [execOp,go_sem,rc,rf,rg,s15] <;> first | omega | rfl | decide
  ·-- 18: slot 33:=Op.fieldAddr 62 t32 4
   intro ra w' hx hg hs
   have s32:ra.eval (.tmp 32) = .pointer (some ⟨x.b,0,none⟩):=hs.1
   clear hs
   change Oper.wp _ _ ra w' _ _
   refine reg.wp_value (v:=.pointer (some ⟨x.b,4,none⟩)) (w':=w') ?_ ⟨_,rfl,dx_refl _,rfl⟩
   intro ρ rc rf rg re
   rw [re] at s32
   simp [execOp,go_sem,rc,rf,rg,s32] <;> first | omega | rfl | decide
  ·-- 19: slot None:=Op.store 59 t33 t31
   intro ra w' hx hg hs
   have s33:ra.eval (.tmp 33) = .pointer (some ⟨x.b,4,none⟩):=hs.1
   have s31:SRow w' w2.heap.size (ra.eval (.tmp 31)) (x.names.take (kidIx x.names n) ++ x.names.drop (kidIx x.names n + 1)) ∧ (∃ a c,(ra.eval (.tmp 31)) = .slice a ((x.names.take (kidIx x.names n)).length + (x.names.drop (kidIx x.names n + 1)).length) c):=hs.2.1
   clear hs
   change Oper.wp _ _ ra w' _ _
   have hbk:=hg 19 rfl
   have hc0:w'.cell? ⟨x.b,4,none⟩ = some (.slice an x.names.length cn):=by rw [blk_cell hbk];rfl
   have hf0:=blk_free hbk 4
   obtain ⟨k1,a,c,hv⟩:=s31
   have htu:Turned [x.b] w' (w'.setCell ⟨x.b,4,none⟩ (ra.eval (.tmp 31))):=(heap.Turned.refl _ _).setCell (by simp) _
   refine reg.wp_skip (w':=w'.setCell ⟨x.b,4,none⟩ (ra.eval (.tmp 31))) ?_ ⟨_,rfl,dx_store hbx2 htu,_,blk_set hbk 4 _,SRow.turned k1 htu (fun g hg' hm=>by have k3:=(World.ownsRow.lt k1 g hg').1;rw [List.mem_singleton.1 hm] at k3;omega)⟩
   rw [hv]
   intro ρ rc rf rg re
   rw [re] at hv s33
   simp [execOp,go_sem,hv,s33,hc0,hf0]
 intro rV w6 hx6 hf
 have ve0:rV 0 = pV x.b:=hf 0 (by decide)
 have ve1:=hf 1 (by decide)
 have ve2:rV 2 = pV x.b:=hf 2 (by decide)
 have ve3:rV 3 = .pointer (some ⟨x.b,0,none⟩):=hf 3 (by decide)
 have ve4:rV 4 = .pointer (some ⟨x.b,4,none⟩):=hf 4 (by decide)
 have ve5:rV 5 = .slice an x.names.length cn:=hf 5 (by decide)
 have ve6:rV 6 = .int .i64 (kidIx x.names n):=hf 6 (by decide)
 have ve7:rV 7 = .slice an (kidIx x.names n) cn:=hf 7 (by decide)
 have ve8:=hf 8 (by decide)
 have ve9:rV 9 = pV x.b:=hf 9 (by decide)
 have ve10:rV 10 = .pointer (some ⟨x.b,0,none⟩):=hf 10 (by decide)
 have ve11:rV 11 = .pointer (some ⟨x.b,4,none⟩):=hf 11 (by decide)
 have ve12:rV 12 = .slice an x.names.length cn:=hf 12 (by decide)
 have ve13:rV 13 = .int .i64 (kidIx x.names n):=hf 13 (by decide)
 have ve14:rV 14 = .int .i64 (((kidIx x.names n:Nat):Int) + 1):=hf 14 (by decide)
 have ve15:rV 15 = backV an x.names.length cn (kidIx x.names n + 1):=hf 15 (by decide)
 have ve16:=hf 16 (by decide)
 have ve17:rV 17 = .pointer (some ⟨x.b,0,none⟩):=hf 17 (by decide)
 have ve18:rV 18 = .pointer (some ⟨x.b,4,none⟩):=hf 18 (by decide)
 have ve19:=hf 19 (by decide)
 clear hf
 simp only [List.zipIdx_cons,List.zipIdx_nil,List.foldl_cons,List.foldl_nil,Act.put,Nat.reduceAdd,List.setIfInBounds_toArray,List.set_cons_succ,List.set_cons_zero,ve0,ve2,ve3,ve4,ve5,ve6,ve7,ve9,ve10,ve11,ve12,ve13,ve14,ve15,ve17,ve18]
 clear ve0 ve2 ve3 ve4 ve5 ve6 ve7 ve9 ve10 ve11 ve12 ve13 ve14 ve15 ve17 ve18
 generalize rV 1 = v1 at *
 generalize rV 8 = v8 at *
 generalize rV 16 = v16 at *
 generalize rV 19 = v19 at *
 clear rV
 obtain ⟨nv5,hb6,hr6⟩:=ve19
 have hbx6:x.b < w6.heap.size:=by have:=hx6.size;omega
 have hks6:KRow w6 base x.kv x.kids:=hks2.turned hx6 (fun g hg hm=>hnbk ((List.mem_singleton.1 hm) ▸ hg))
 rw [ek] at hb6 hks6 hnbk
 have HB6:=Lib.hid hb6
 have HKR:Hid (∀ W,Turned [x.b] w6 W → KRow W base (.slice ak x.kids.length ck) x.kids):=fun W hW=>hks6.turned hW (fun g hg hm=>hnbk ((List.mem_singleton.1 hm) ▸ hg))
 have HFK:=Lib.hid (fun W=>run_frontK ak x.kids.length ck (kidIx x.names n) (by omega) hk1 hk2 W)
 have HBK:Hid (∀ W,(Instr.sliceAt 60 (.slice ak x.kids.length ck) (some (.int .i64 (((kidIx x.names n:Nat):Int) + 1))) none none).run Tryz.prog W = .ok (backV ak x.kids.length ck (kidIx x.names n + 1)) W):=fun W=>run_backK ak x.kids.length ck (kidIx x.names n + 1) hmk1 hck W
 have HR6:=Lib.hid (And.intro hr6 (And.intro hx6 hT2))
 clear ve1 ve8 ve16 hx6 hr6 hks6 hks2 hns2 HFR HBA HB2 HNR hT2 hb6 hk1 hk2
 go_wp2_with fail
 refine reg.region_eachG (by kernel_rfl) (DX pV 55 x.b w6.heap.size (x.kids.take (kidIx x.names n))) (fun w'=>Turned [x.b] w6 w') (fun ri v w'=>match ri with
   | 0=>v = pV x.b
   | 1=>∃ g1,v = .slice (some ⟨g1,0,none⟩) 0 0 ∧ w6.heap.size ≤ g1 ∧ w'.heap[g1]? = some (.cells #[] 55 (0,0))
   | 2=>v = pV x.b
   | 3=>v = .pointer (some ⟨x.b,0,none⟩)
   | 4=>v = .pointer (some ⟨x.b,5,none⟩)
   | 5=>v = .slice ak x.kids.length ck
   | 6=>v = .int .i64 (kidIx x.names n)
   | 7=>v = .slice ak (kidIx x.names n) ck
   | 8=>KRow w' w6.heap.size v (x.kids.take (kidIx x.names n)) ∧ (∃ g c,v = .slice (some ⟨g,0,none⟩) (x.kids.take (kidIx x.names n)).length c)
   | 9=>v = pV x.b
   | 10=>v = .pointer (some ⟨x.b,0,none⟩)
   | 11=>v = .pointer (some ⟨x.b,5,none⟩)
   | 12=>v = .slice ak x.kids.length ck
   | 13=>v = .int .i64 (kidIx x.names n)
   | 14=>v = .int .i64 (((kidIx x.names n:Nat):Int) + 1)
   | 15=>v = backV ak x.kids.length ck (kidIx x.names n + 1)
   | 16=>KRow w' w6.heap.size v (x.kids.take (kidIx x.names n) ++ x.kids.drop (kidIx x.names n + 1)) ∧ (∃ a c,v = .slice a ((x.kids.take (kidIx x.names n)).length + (x.kids.drop (kidIx x.names n + 1)).length) c)
   | 17=>v = .pointer (some ⟨x.b,0,none⟩)
   | 18=>v = .pointer (some ⟨x.b,5,none⟩)
   | 19=>∃ u,w'.heap[x.b]? = some (bO id x.kind x.mode x.data nv5 u up) ∧ KRow w' w6.heap.size u (x.kids.take (kidIx x.names n) ++ x.kids.drop (kidIx x.names n + 1))
   | _=>True) (fun rk w'=>match rk with
   | 19=>w'.heap[x.b]? = some (bO id x.kind x.mode x.data nv5 (.slice ak x.kids.length ck) up)
   | _=>True) ?_ ?_ ?_ ?_ ?_ (by kernel_rfl) ?_ ?_
 ·exact (Turned.refl _ _).drew
 ·
  intro k
  split <;> first | trivial | (exact HB6.out)
 ·
  intro j w1 w2 h hx
  (rcases hx.bel with hbl | ⟨-,htl⟩ <;> first | exact tur_bel h hbl | exact h.trans htl)
 ·
  intro j i v w1 w2 hij hj hr h hx
  rcases i with _|_|_|_|_|_|_|_|_|_|_|_|_|_|_|_|_|_|_|_|i
  ·exact h
  ·(obtain ⟨g1,k1,k2,k3⟩:=h;exact ⟨g1,k1,k2,hx.emp g1 (by omega) k3⟩)
  ·exact h
  ·exact h
  ·exact h
  ·exact h
  ·exact h
  ·exact h
  ·exact ⟨hx.row v h.1,h.2⟩
  ·exact h
  ·exact h
  ·exact h
  ·exact h
  ·exact h
  ·exact h
  ·exact h
  ·exact ⟨KRow.turned h.1 (hx.ext (fun e=>hij e.symm)) (fun g hg' hm=>by have k3:=(KRow.lt h.1 hg').1;split at hm <;> simp at hm;omega),h.2⟩
  ·exact h
  ·exact h
  ·exact (reg.last_no (by kernel_rfl) hij hj hr).elim
  ·trivial
 ·
  intro j k w1 w2 hkj h hx
  split at h <;> first | exact h | exact ((hx.bel.resolve_right (fun e=>hkj e.1.symm)).block x.b hbx6).trans h
 ·
  refine ⟨?_,?_,?_,?_,?_,?_,?_,?_,?_,?_,?_,?_,?_,?_,?_,?_,?_,?_,?_,?_,trivial⟩
  ·-- 0: slot 34:=Op.move t0
   intro ra w' hx hg hs
   have s0:ra.eval (.tmp 0) = pV x.b:=hs.1
   clear hs
   change Oper.wp _ _ ra w' _ _
   refine reg.wp_value (v:=pV x.b) (w':=w') ?_ ⟨_,rfl,dx_refl _,rfl⟩
   intro ρ rc rf rg re
   rw [re] at s0
   simp [execOp,go_sem,rc,rf,rg,s0] <;> first | omega | rfl | decide
  ·-- 1: slot 35:=Op.buildSlice 60 0 #[]
   intro ra w' hx hg hs
   clear hs
   change Oper.wp _ _ ra w' _ _
   refine reg.wp_value (v:=.slice (some ⟨w'.heap.size,0,none⟩) 0 0) (w':=w'.alloc (.cells #[] 55 (0,0))) ?_ ⟨_,rfl,dx_below hx.size ((Below.refl _ _).alloc (Nat.le_refl _) _),_,rfl,hx.size,blk_new _ _⟩
   intro ρ rc rf rg re
   simp [execOp,go_sem,rc,rf,rg] <;> first | omega | rfl | decide
  ·-- 2: slot 36:=Op.move t0
   intro ra w' hx hg hs
   have s0:ra.eval (.tmp 0) = pV x.b:=hs.1
   clear hs
   change Oper.wp _ _ ra w' _ _
   refine reg.wp_value (v:=pV x.b) (w':=w') ?_ ⟨_,rfl,dx_refl _,rfl⟩
   intro ρ rc rf rg re
   rw [re] at s0
   simp [execOp,go_sem,rc,rf,rg,s0] <;> first | omega | rfl | decide
  ·-- 3: slot 37:=Op.nilCheck t36
   intro ra w' hx hg hs
   have s36:ra.eval (.tmp 36) = pV x.b:=hs.1
   clear hs
   change Oper.wp _ _ ra w' _ _
   refine reg.wp_value (v:=.pointer (some ⟨x.b,0,none⟩)) (w':=w') ?_ ⟨_,rfl,dx_refl _,rfl⟩
   intro ρ rc rf rg re
   rw [re] at s36
   simp [execOp,go_sem,rc,rf,rg,s36] <;> first | omega | rfl | decide
  ·-- 4: slot 38:=Op.fieldAddr 62 t37 5
   intro ra w' hx hg hs
   have s37:ra.eval (.tmp 37) = .pointer (some ⟨x.b,0,none⟩):=hs.1
   clear hs
   change Oper.wp _ _ ra w' _ _
   refine reg.wp_value (v:=.pointer (some ⟨x.b,5,none⟩)) (w':=w') ?_ ⟨_,rfl,dx_refl _,rfl⟩
   intro ρ rc rf rg re
   rw [re] at s37
   simp [execOp,go_sem,rc,rf,rg,s37] <;> first | omega | rfl | decide
  ·-- 5: slot 39:=Op.load 60 t38
   intro ra w' hx hg hs
   have s38:ra.eval (.tmp 38) = .pointer (some ⟨x.b,5,none⟩):=hs.1
   clear hs
   change Oper.wp _ _ ra w' _ _
   have hc0:w'.cell? ⟨x.b,5,none⟩ = some (.slice ak x.kids.length ck):=by rw [blk_cell (hg 19 rfl)];rfl
   refine reg.wp_value (v:=.slice ak x.kids.length ck) (w':=w') ?_ ⟨_,rfl,dx_refl _,rfl⟩
   intro ρ rc rf rg re
   rw [re] at s38
   simp [execOp,go_sem,rc,rf,rg,s38,hc0] <;> first | omega | rfl | decide
  ·-- 6: slot 40:=Op.move t5
   intro ra w' hx hg hs
   have s5:ra.eval (.tmp 5) = .int .i64 (kidIx x.names n):=hs.1
   clear hs
   change Oper.wp _ _ ra w' _ _
   refine reg.wp_value (v:=.int .i64 (kidIx x.names n)) (w':=w') ?_ ⟨_,rfl,dx_refl _,rfl⟩
   intro ρ rc rf rg re
   rw [re] at s5
   simp [execOp,go_sem,rc,rf,rg,s5] <;> first | omega | rfl | decide
  ·-- 7: slot 41:=Op.slice 60 t39 none (some t40) none
   intro ra w' hx hg hs
   have s39:ra.eval (.tmp 39) = .slice ak x.kids.length ck:=hs.1
   have s40:ra.eval (.tmp 40) = .int .i64 (kidIx x.names n):=hs.2.1
   clear hs
   change Oper.wp _ _ ra w' _ _
   exact reg.wp_value (runs_slice rfl s39 rfl (congrArg some s40) (HFK.out w')) ⟨_,rfl,dx_refl _,rfl⟩
  ·-- 8: slot 42:=Op.call { builtin append,args := #[t35,t41],argTypes := #[60,60] }
   intro ra w' hx hg hs
   have s35:∃ g1,(ra.eval (.tmp 35)) = .slice (some ⟨g1,0,none⟩) 0 0 ∧ w6.heap.size ≤ g1 ∧ w'.heap[g1]? = some (.cells #[] 55 (0,0)):=hs.1
   have s41:ra.eval (.tmp 41) = .slice ak (kidIx x.names n) ck:=hs.2.1
   clear hs
   change Oper.wp _ _ ra w' _ _
   obtain ⟨g1,hv,k2,k3⟩:=s35
   obtain ⟨v2,w3,hrun,hown,hbl,g2,c2,hsh⟩:=full_kk w' w6.heap.size g1 0 [] ⟨rfl,.inr ⟨g1,0,_,rfl,k2,k3,Nat.le_refl 0,by decide,rfl,rfl⟩⟩ _ _ (SrcR.whole (ARow.take ((krow_is _ _ _ _).1 (HKR.out w' hx)) (kidIx x.names n) hmk)) hx.size (by simp;omega)
   exact reg.wp_value (reg.runs_append rfl rfl hv s41 hrun) ⟨_,rfl,dx_below hx.size hbl,hown,g2,c2,by rw [hsh];simp⟩
  ·-- 9: slot 43:=Op.move t0
   intro ra w' hx hg hs
   have s0:ra.eval (.tmp 0) = pV x.b:=hs.1
   clear hs
   change Oper.wp _ _ ra w' _ _
   refine reg.wp_value (v:=pV x.b) (w':=w') ?_ ⟨_,rfl,dx_refl _,rfl⟩
   intro ρ rc rf rg re
   rw [re] at s0
   simp [execOp,go_sem,rc,rf,rg,s0] <;> first | omega | rfl | decide
  ·-- 10: slot 44:=Op.nilCheck t43
   intro ra w' hx hg hs
   have s43:ra.eval (.tmp 43) = pV x.b:=hs.1
   clear hs
   change Oper.wp _ _ ra w' _ _
   refine reg.wp_value (v:=.pointer (some ⟨x.b,0,none⟩)) (w':=w') ?_ ⟨_,rfl,dx_refl _,rfl⟩
   intro ρ rc rf rg re
   rw [re] at s43
   simp [execOp,go_sem,rc,rf,rg,s43] <;> first | omega | rfl | decide
  ·-- 11: slot 45:=Op.fieldAddr 62 t44 5
   intro ra w' hx hg hs
   have s44:ra.eval (.tmp 44) = .pointer (some ⟨x.b,0,none⟩):=hs.1
   clear hs
   change Oper.wp _ _ ra w' _ _
   refine reg.wp_value (v:=.pointer (some ⟨x.b,5,none⟩)) (w':=w') ?_ ⟨_,rfl,dx_refl _,rfl⟩
   intro ρ rc rf rg re
   rw [re] at s44
   simp [execOp,go_sem,rc,rf,rg,s44] <;> first | omega | rfl | decide
  ·-- 12: slot 46:=Op.load 60 t45
   intro ra w' hx hg hs
   have s45:ra.eval (.tmp 45) = .pointer (some ⟨x.b,5,none⟩):=hs.1
   clear hs
   change Oper.wp _ _ ra w' _ _
   have hc0:w'.cell? ⟨x.b,5,none⟩ = some (.slice ak x.kids.length ck):=by rw [blk_cell (hg 19 rfl)];rfl
   refine reg.wp_value (v:=.slice ak x.kids.length ck) (w':=w') ?_ ⟨_,rfl,dx_refl _,rfl⟩
   intro ρ rc rf rg re
   rw [re] at s45
   simp [execOp,go_sem,rc,rf,rg,s45,hc0] <;> first | omega | rfl | decide
  ·-- 13: slot 47:=Op.move t5
   intro ra w' hx hg hs
   have s5:ra.eval (.tmp 5) = .int .i64 (kidIx x.names n):=hs.1
   clear hs
   change Oper.wp _ _ ra w' _ _
   refine reg.wp_value (v:=.int .i64 (kidIx x.names n)) (w':=w') ?_ ⟨_,rfl,dx_refl _,rfl⟩
   intro ρ rc rf rg re
   rw [re] at s5
   simp [execOp,go_sem,rc,rf,rg,s5] <;> first | omega | rfl | decide
  ·-- 14: slot 48:=Op.binOp BinOp.add 3 t47 (const (1:i64)) 3
   intro ra w' hx hg hs
   have s47:ra.eval (.tmp 47) = .int .i64 (kidIx x.names n):=hs.1
   clear hs
   change Oper.wp _ _ ra w' _ _
   refine reg.wp_value (v:=.int .i64 (((kidIx x.names n:Nat):Int) + 1)) (w':=w') ?_ ⟨_,rfl,dx_refl _,rfl⟩
   intro ρ rc rf rg re
   rw [re] at s47
   simp [execOp,go_sem,rc,rf,rg,s47,q1,q2] <;> first | omega | rfl | decide
  ·-- 15: slot 49:=Op.slice 60 t46 (some t48) none none
   intro ra w' hx hg hs
   have s46:ra.eval (.tmp 46) = .slice ak x.kids.length ck:=hs.1
   have s48:ra.eval (.tmp 48) = .int .i64 (((kidIx x.names n:Nat):Int) + 1):=hs.2.1
   clear hs
   change Oper.wp _ _ ra w' _ _
   exact reg.wp_value (runs_slice rfl s46 (congrArg some s48) rfl (HBK.out w')) ⟨_,rfl,dx_refl _,rfl⟩
  ·-- 16: slot 50:=Op.call { builtin append,args := #[t42,t49],argTypes := #[60,60] }
   intro ra w' hx hg hs
   have s42:KRow w' w6.heap.size (ra.eval (.tmp 42)) (x.kids.take (kidIx x.names n)) ∧ (∃ g c,(ra.eval (.tmp 42)) = .slice (some ⟨g,0,none⟩) (x.kids.take (kidIx x.names n)).length c):=hs.1
   have s49:ra.eval (.tmp 49) = backV ak x.kids.length ck (kidIx x.names n + 1):=hs.2.1
   clear hs
   change Oper.wp _ _ ra w' _ _
   obtain ⟨k1,g3,c3,hv3⟩:=s42
   obtain ⟨v2,w3,hrun,hown,hbl,hrw,hem,hsh⟩:=keep_kk w' w6.heap.size _ _ k1 _ _ (backV_src ((krow_is _ _ _ _).1 (HKR.out w' hx)) (kidIx x.names n + 1) hmk1) hx.size ⟨g3,c3,hv3⟩ (by simp;omega)
   exact reg.wp_value (reg.runs_append rfl rfl rfl s49 hrun) ⟨_,rfl,⟨.inl hbl,(fun hh=>absurd rfl hh),hrw,(fun g _=>hem g)⟩,hown,hsh⟩
  ·-- 17: slot 51:=Op.nilCheck t34
   intro ra w' hx hg hs
   have s34:ra.eval (.tmp 34) = pV x.b:=hs.1
   clear hs
   change Oper.wp _ _ ra w' _ _
   refine reg.wp_value (v:=.pointer (some ⟨x.b,0,none⟩)) (w':=w') ?_ ⟨_,rfl,dx_refl _,rfl⟩
   intro ρ rc rf rg re
   rw [re] at s34
   simp [execOp,go_sem,rc,rf,rg,s34] <;> first | omega | rfl | decide
  ·-- 18: slot 52:=Op.fieldAddr 62 t51 5
   intro ra w' hx hg hs
   have s51:ra.eval (.tmp 51) = .pointer (some ⟨x.b,0,none⟩):=hs.1
   clear hs
   change Oper.wp _ _ ra w' _ _
   refine reg.wp_value (v:=.pointer (some ⟨x.b,5,none⟩)) (w':=w') ?_ ⟨_,rfl,dx_refl _,rfl⟩
   intro ρ rc rf rg re
   rw [re] at s51
   simp [execOp,go_sem,rc,rf,rg,s51] <;> first | omega | rfl | decide
  ·-- 19: slot None:=Op.store 60 t52 t50
   intro ra w' hx hg hs
   have s52:ra.eval (.tmp 52) = .pointer (some ⟨x.b,5,none⟩):=hs.1
   have s50:KRow w' w6.heap.size (ra.eval (.tmp 50)) (x.kids.take (kidIx x.names n) ++ x.kids.drop (kidIx x.names n + 1)) ∧ (∃ a c,(ra.eval (.tmp 50)) = .slice a ((x.kids.take (kidIx x.names n)).length + (x.kids.drop (kidIx x.names n + 1)).length) c):=hs.2.1
   clear hs
   change Oper.wp _ _ ra w' _ _
   have hbk:=hg 19 rfl
   have hc0:w'.cell? ⟨x.b,5,none⟩ = some (.slice ak x.kids.length ck):=by rw [blk_cell hbk];rfl
   have hf0:=blk_free hbk 5
   obtain ⟨k1,a,c,hv⟩:=s50
   have htu:Turned [x.b] w' (w'.setCell ⟨x.b,5,none⟩ (ra.eval (.tmp 50))):=(heap.Turned.refl _ _).setCell (by simp) _
   refine reg.wp_skip (w':=w'.setCell ⟨x.b,5,none⟩ (ra.eval (.tmp 50))) ?_ ⟨_,rfl,dx_store hbx6 htu,_,blk_set hbk 5 _,KRow.turned k1 htu (fun g hg' hm=>by have k3:=(KRow.lt k1 hg').1;rw [List.mem_singleton.1 hm] at k3;omega)⟩
   rw [hv]
   intro ρ rc rf rg re
   rw [re] at hv s52
   simp [execOp,go_sem,hv,s52,hc0,hf0]
 intro rV w7 hx7 hf
 have ve0:rV 0 = pV x.b:=hf 0 (by decide)
 have ve1:=hf 1 (by decide)
 have ve2:rV 2 = pV x.b:=hf 2 (by decide)
 have ve3:rV 3 = .pointer (some ⟨x.b,0,none⟩):=hf 3 (by decide)
 have ve4:rV 4 = .pointer (some ⟨x.b,5,none⟩):=hf 4 (by decide)
 have ve5:rV 5 = .slice ak x.kids.length ck:=hf 5 (by decide)
 have ve6:rV 6 = .int .i64 (kidIx x.names n):=hf 6 (by decide)
 have ve7:rV 7 = .slice ak (kidIx x.names n) ck:=hf 7 (by decide)
 have ve8:=hf 8 (by decide)
 have ve9:rV 9 = pV x.b:=hf 9 (by decide)
 have ve10:rV 10 = .pointer (some ⟨x.b,0,none⟩):=hf 10 (by decide)
 have ve11:rV 11 = .pointer (some ⟨x.b,5,none⟩):=hf 11 (by decide)
 have ve12:rV 12 = .slice ak x.kids.length ck:=hf 12 (by decide)
 have ve13:rV 13 = .int .i64 (kidIx x.names n):=hf 13 (by decide)
 have ve14:rV 14 = .int .i64 (((kidIx x.names n:Nat):Int) + 1):=hf 14 (by decide)
 have ve15:rV 15 = backV ak x.kids.length ck (kidIx x.names n + 1):=hf 15 (by decide)
 have ve16:=hf 16 (by decide)
 have ve17:rV 17 = .pointer (some ⟨x.b,0,none⟩):=hf 17 (by decide)
 have ve18:rV 18 = .pointer (some ⟨x.b,5,none⟩):=hf 18 (by decide)
 have ve19:=hf 19 (by decide)
 clear hf
 simp only [List.zipIdx_cons,List.zipIdx_nil,List.foldl_cons,List.foldl_nil,Act.put,Nat.reduceAdd,List.setIfInBounds_toArray,List.set_cons_succ,List.set_cons_zero,ve0,ve2,ve3,ve4,ve5,ve6,ve7,ve9,ve10,ve11,ve12,ve13,ve14,ve15,ve17,ve18]
 clear ve0 ve2 ve3 ve4 ve5 ve6 ve7 ve9 ve10 ve11 ve12 ve13 ve14 ve15 ve17 ve18
 generalize rV 1 = v1 at *
 generalize rV 8 = v8 at *
 generalize rV 16 = v16 at *
 generalize rV 19 = v19 at *
 clear rV
 obtain ⟨kv7,hb7,hr7⟩:=ve19
 obtain ⟨hr6,hx6,hT2⟩:=HR6.out
 have hl6:∀ g,nv5.ownBlock = some g → w2.heap.size ≤ g ∧ g < w6.heap.size:=fun g hg=>World.ownsRow.lt hr6 g hg
 have hl7:∀ g,kv7.ownBlock = some g → w6.heap.size ≤ g ∧ g < w7.heap.size:=fun g hg=>hr7.lt hg
 have hr67:SRow w7 w2.heap.size nv5 (x.names.take (kidIx x.names n) ++ x.names.drop (kidIx x.names n + 1)):=hr6.turned hx7 (fun g hg hm=>by
  have:=(hl6 g hg).1
  rw [List.mem_singleton.1 hm] at this
  omega)
 have hs6:w2.heap.size ≤ w6.heap.size:=hx6.size
 have hbw:base ≤ w.heap.size:=by have:=h.own;omega
 have hall:Turned [q,x.b] w w7:=((hT2.mono (by simp)).trans (hx6.mono (by simp))).trans (hx7.mono (by simp))
 have HFIN:Hid (∃ nv kv,NodeAt w7 base { x with names:=x.names.eraseIdx (kidIx x.names n),kids:=x.kids.eraseIdx (kidIx x.names n),nv:=nv,kv:=kv } ∧
   (∀ g,nv.ownBlock = some g → w.heap.size ≤ g) ∧ (∀ g,kv.ownBlock = some g → w.heap.size ≤ g) ∧ (∀ g,nv.ownBlock = some g → kv.ownBlock ≠ some g) ∧ Turned [q,x.b] w w7):=by
  refine ⟨nv5,kv7,⟨⟨id,up,hb7⟩,h.own,?_,?_⟩,fun g hg => ?_,fun g hg => ?_,fun g hg hk => ?_,hall⟩
  ·show SRow w7 base nv5 (x.names.eraseIdx _)
   rw [List.eraseIdx_eq_take_drop_succ]
   exact own_base hr67 (by omega)
  ·show KRow w7 base kv7 (x.kids.eraseIdx _)
   rw [List.eraseIdx_eq_take_drop_succ]
   obtain ⟨hl,h1 | ⟨g,c,cur,rfl,h2,h3⟩⟩:=hr7
   ·exact ⟨hl,.inl h1⟩
   ·exact ⟨hl,.inr ⟨g,c,cur,rfl,by omega,h3⟩⟩
  ·have:=(hl6 g hg).1;omega
  ·have:=(hl7 g hg).1;omega
  ·have:=(hl6 g hg).2;have:=(hl7 g hk).1;omega
 clear ve1 ve8 ve16 HR6 HFK HBK HB6 HKR hx7 hall
 go_wp2_with fail
 go_end0
 exact ⟨rfl,HFIN.out⟩
end Go.Proofs.YtifhnpkapgaboaaGreat.doc
