/-
  Proved: the document's tree: a new entry put into a node. Conditions: as each theorem says.
-/
import Derived.Test.YtifhnpkapgaboaaGreatPj30
import Derived.Test.YtifhnpkapgaboaaGreatPj1
set_option linter.unusedVariables false
set_option linter.unusedSimpArgs false
namespace Go.Proofs.YtifhnpkapgaboaaGreat.doc
open Go Go.RowKit
open heap
open path (sv str_size SRow own_kept own_base add0)
set_option maxRecDepth 100000
theorem runs_slice {P:Program} {w:World} {o:Oper} {a:Act} {T:TypeId} {x:Operand} {lo hi:Option Operand} {vx r:Value} {vl vh:Option Value}
  (ho:o.op = .slice T x lo hi none) (hx:a.eval x = vx) (hl:lo.map a.eval = vl) (hh:hi.map a.eval = vh) (hr:(Instr.sliceAt T vx vl vh none).run P w = .ok r w):reg.Runs P o a w (.ok (.value r) w):=by
 intro ρ _ _ _ re
 have e:a.eval = ρ:=funext re
 rw [e] at hx hl hh
 simp [execOp,ho,hx,hl,hh,hr,Result.andThen]
def backV (a:Option Addr) (n c m:Nat):Value:=.slice (if c = m then a else a.map (·.add (m * 1))) (n - m) (c - m)
theorem backV_src {α:Type} {f:α → Value} {e:TypeId} {w:World} {base n c:Nat} {a:Option Addr} {xs:List α} (h:ARow f e w base (.slice a n c) xs) (m:Nat) (hm:m ≤ xs.length):SrcR f w (backV a n c m) (xs.drop m):=by
 have hn:n = xs.length ∧ n ≤ c ∧ (a = none ∨ ∃ g,a = some ⟨g,0,none⟩):=by
  obtain ⟨hl,⟨e1,h0⟩ | ⟨g,c',cur,e1,h2,h3,h4,h5⟩⟩:=h
  ·simp only [Value.slice.injEq] at e1
   obtain ⟨rfl,rfl,rfl⟩:=e1
   exact ⟨h0.symm,Nat.le_refl _,.inl rfl⟩
  ·simp only [Value.slice.injEq] at e1
   obtain ⟨rfl,rfl,rfl⟩:=e1
   exact ⟨rfl,h4,.inr ⟨g,rfl⟩⟩
 obtain ⟨rfl,hnc,ha⟩:=hn
 unfold backV
 by_cases hc:c = m
 ·rw [if_pos hc]
  have h0:xs.length - m = 0:=by omega
  have hd:xs.drop m = []:=List.drop_eq_nil_of_le (by omega)
  rw [h0,hd]
  rcases ha with rfl | ⟨g,rfl⟩
  ·exact .inl ⟨_,rfl,rfl⟩
  ·exact .inr ⟨_,_,rfl,fun j y hy=>by simp at hy⟩
 ·rw [if_neg hc]
  rcases ha with rfl | ⟨g,rfl⟩
  ·refine .inl ⟨c - m,?_,?_⟩
   ·have:xs.length - m = 0:=by
     obtain ⟨hl,⟨e1,h0⟩ | ⟨g,c',cur,e1,h2,h3,h4,h5⟩⟩:=h
     ·omega
     ·simp at e1
    rw [this];rfl
   ·obtain ⟨hl,⟨e1,h0⟩ | ⟨g,c',cur,e1,h2,h3,h4,h5⟩⟩:=h
    ·exact List.drop_eq_nil_of_le (by omega)
    ·simp at e1
  ·have e2:(⟨g,0,none⟩:Addr).add (m * 1) = ⟨g,m,none⟩:=by rw [Nat.mul_one];exact add0 g m
   rw [Option.map_some,e2]
   exact h.src m _ _ rfl
theorem row_shape {α:Type} {f:α → Value} {e:TypeId} {w:World} {base:Nat} {v:Value} {xs:List α} (h:ARow f e w base v xs):∃ a c,v = .slice a xs.length c ∧ xs.length ≤ c ∧ (a = none → c = 0) ∧ (∀ x,a = some x → x.add 0 = x):=by
 obtain ⟨hl,⟨e1,h0⟩ | ⟨g,c',cur,e1,h2,h3,h4,h5⟩⟩:=h
 ·exact ⟨none,0,by rw [e1,h0],by omega,fun _=>rfl,fun x hx=>by cases hx⟩
 ·exact ⟨some ⟨g,0,none⟩,c',e1,h4,(fun hx=>by cases hx),(fun x hx=>by cases hx;exact add0 g 0)⟩
theorem run_frontS (a:Option Addr) (n c m:Nat) (h:m ≤ c) (ha:a = none → c = 0) (h0:∀ x,a = some x → x.add 0 = x) (W:World):(Instr.sliceAt 59 (.slice a n c) none (some (.int .i64 m)) none).run Tryz.prog W = .ok (.slice a m c) W:=by
 have h1:(m:Int) ≤ c:=by omega
 have e:(if c = 0 then a else a.map (fun x=>x.add 0)) = a:=by
  split
  ·rfl
  ·cases a with
   | none=>rfl
   | some x=>rw [Option.map_some,h0 x rfl]
 simp [go_sem,h1,e]
theorem run_backS (a:Option Addr) (n c m:Nat) (h:m ≤ n) (hc:n ≤ c) (W:World):(Instr.sliceAt 59 (.slice a n c) (some (.int .i64 m)) none none).run Tryz.prog W = .ok (backV a n c m) W:=by
 have h1:(m:Int) ≤ n:=by omega
 have h2:(n:Int) ≤ c:=by omega
 unfold backV
 simp [go_sem,h1,h2]
theorem run_frontK (a:Option Addr) (n c m:Nat) (h:m ≤ c) (ha:a = none → c = 0) (h0:∀ x,a = some x → x.add 0 = x) (W:World):(Instr.sliceAt 60 (.slice a n c) none (some (.int .i64 m)) none).run Tryz.prog W = .ok (.slice a m c) W:=by
 have h1:(m:Int) ≤ c:=by omega
 have e:(if c = 0 then a else a.map (fun x=>x.add 0)) = a:=by
  split
  ·rfl
  ·cases a with
   | none=>rfl
   | some x=>rw [Option.map_some,h0 x rfl]
 simp [go_sem,h1,e]
theorem run_backK (a:Option Addr) (n c m:Nat) (h:m ≤ n) (hc:n ≤ c) (W:World):(Instr.sliceAt 60 (.slice a n c) (some (.int .i64 m)) none none).run Tryz.prog W = .ok (backV a n c m) W:=by
 have h1:(m:Int) ≤ n:=by omega
 have h2:(n:Int) ≤ c:=by omega
 unfold backV
 simp [go_sem,h1,h2]
def insS (b:Nat) (v:Value) (j:Nat):List Nat:=if j = 16 then v.ownBlock.toList else if j = 19 then [b] else []
theorem insS_sub {b:Nat} {v:Value} {j x:Nat} (h:x ∈ insS b v j):x ∈ b :: v.ownBlock.toList:=by
 unfold insS at h
 split at h
 ·exact List.mem_cons_of_mem _ h
 ·split at h
  ·rw [List.mem_singleton.1 h];exact List.mem_cons_self
  ·cases h
theorem insS_16 {b:Nat} {v:Value} {j x:Nat} (h:x ∈ insS b v j) (hj:16 ≠ j):x = b:=by
 unfold insS at h
 rw [if_neg (Ne.symm hj)] at h
 split at h
 ·exact List.mem_singleton.1 h
 ·cases h
theorem insS_19 {b:Nat} {v:Value} {j x:Nat} (h:x ∈ insS b v j) (hj:19 ≠ j):v.ownBlock = some x:=by
 unfold insS at h
 split at h
 ·exact Option.mem_toList.1 h
 ·rw [if_neg (Ne.symm hj)] at h;cases h
theorem own_eq (a:Option Addr) (n n' c c':Nat):(Value.slice a n c).ownBlock = (Value.slice a n' c').ownBlock:=by cases a <;> rfl
theorem grown_tur {w w':World} {v:Value} (h:w.grownBy w' v.ownBlock):Turned v.ownBlock.toList w w':=
 ⟨h.os,h.tape,h.output,h.size,fun k hk hn=>h.block k hk (fun e=>hn (Option.mem_toList.2 e.symm))⟩
set_option maxHeartbeats 4000000 in
theorem put_new (base:Nat) (x:BN) (n:Nm) (zb:Nat) (zid zkind zmode:Int) (zdata:Nm) (znv zkv zup:Value) (w:World) (h:NodeAt w base x) (hno:x.names[kidIx x.names n]? ≠ some n) (hlen:x.names.length = x.kids.length) (hsz:x.names.length ≤ 1000000000)
  (hz:w.heap[zb]? = some (bO zid zkind zmode zdata znv zkv zup)) (hne:zb ∉ blks x) (hnd:(blks x).Nodup) (hbase:base ≤ w.heap.size) :
  Calls Tryz.prog 61 #[pV x.b,sv n,pV zb] w fun e w'=>e = .returned (.tuple #[]) ∧ ∃ nv kv,NodeAt w' base { x with names:=insN x.names n,kids:=x.kids.take (kidIx x.names n) ++ zb :: x.kids.drop (kidIx x.names n),nv:=nv,kv:=kv } ∧
   (∀ g,nv.ownBlock = some g → x.nv.ownBlock = some g ∨ w.heap.size ≤ g) ∧ (∀ g,kv.ownBlock = some g → x.kv.ownBlock = some g ∨ w.heap.size ≤ g) ∧ (∀ g,nv.ownBlock = some g → kv.ownBlock ≠ some g) ∧ (∃ up,w'.heap[zb]? = some (bO zid zkind zmode zdata znv zkv up)) ∧ Turned (zb :: blks x) w w':=by
 have HKA:=Lib.hid ((kid_any base x n w h hlen hsz).mono fun e w' ⟨hk,hw⟩=>(show e = Ending.returned (.tuple #[.pointer none,.int .i64 (kidIx x.names n)]) ∧ w = w' from ⟨by
  rcases hk with ⟨c,h1,-⟩ | ⟨-,h1⟩
  ·exact absurd h1 hno
  ·exact h1,hw⟩))
 obtain ⟨id,up,hb⟩:=h.blk
 have hml:=kidIx_le x.names n
 have f6:w.frozen? ⟨zb,6,none⟩ = false:=blk_free hz 6
 have c6:w.cell? ⟨zb,6,none⟩ = some zup:=by rw [blk_cell hz];rfl
 obtain ⟨an,cn,en,hcn,hn1,hn2⟩:=row_shape ((srow_is _ _ _ _).1 h.ns)
 obtain ⟨ak,ck,ek,hck,hk1,hk2⟩:=row_shape ((krow_is _ _ _ _).1 h.ks)
 go_enter Tryz.func61,Tryz.ntmps61
 go_upto_region 5 with (go_at_call 64;refine HKA.out.mono ?_;rintro e' w2 ⟨rfl,rfl⟩)
 have hxz:x.b ≠ zb:=fun e=>hne (mem_blks.2 (.inl e.symm))
 have hb2:(w.setCell ⟨zb,6,none⟩ (pV x.b)).heap[x.b]? = some (bO id x.kind x.mode x.data x.nv x.kv up):=(blk_other hxz _ _).trans hb
 have hT2:Turned [zb] w (w.setCell ⟨zb,6,none⟩ (pV x.b)):=(Turned.refl _ _).setCell (by simp) _
 have hz2:(w.setCell ⟨zb,6,none⟩ (pV x.b)).heap[zb]? = some (bO zid zkind zmode zdata znv zkv (pV x.b)):=blk_set hz 6 _
 have hns2:SRow (w.setCell ⟨zb,6,none⟩ (pV x.b)) base x.nv x.names:=h.ns.turned hT2 (fun g hg hm=>hne (mem_blks.2 (.inr (.inl (by rw [← List.mem_singleton.1 hm];exact hg)))))
 have hks2:KRow (w.setCell ⟨zb,6,none⟩ (pV x.b)) base x.kv x.kids:=h.ks.turned hT2 (fun g hg hm=>hne (mem_blks.2 (.inr (.inr (by rw [← List.mem_singleton.1 hm];exact hg)))))
 have hbx:x.b < w.heap.size:=blk_lt hb
 have hs2:(w.setCell ⟨zb,6,none⟩ (pV x.b)).heap.size = w.heap.size:=by simp [World.setCell]
 generalize w.setCell ⟨zb,6,none⟩ (pV x.b) = w2 at *
 have hnbn:x.nv.ownBlock ≠ some x.b:=fun e=>by
  have:=List.nodup_cons.1 hnd
  exact this.1 (List.mem_append_left _ (Option.mem_toList.2 e))
 have hnbk:x.kv.ownBlock ≠ some x.b:=fun e=>by
  have:=List.nodup_cons.1 hnd
  exact this.1 (List.mem_append_right _ (Option.mem_toList.2 e))
 have hnk:∀ g,x.nv.ownBlock = some g → x.kv.ownBlock ≠ some g:=fun g e1 e2=>by
  have:=(List.nodup_append.1 (List.nodup_cons.1 hnd).2).2.2 g (Option.mem_toList.2 e1) g (Option.mem_toList.2 e2)
  exact this rfl
 have HLN:=Lib.hid (fun g hg=>h.lt (x:=x) (g:=g) (mem_blks.2 (.inr (.inl hg))))
 have HB2:=Lib.hid hb2
 have HN2:=Lib.hid hns2
 have HFR:=Lib.hid (fun W=>run_frontS an x.names.length cn (kidIx x.names n) (by omega) hn1 hn2 W)
 have HBA:=Lib.hid (fun W=>run_backS an x.names.length cn (kidIx x.names n) hml hcn W)
 rw [en] at hnbn hnk HB2 HN2 HLN hb2 hns2
 clear HKA hb hz f6 c6 hn1 hn2
 refine reg.region_eachG (by kernel_rfl) ((fun rj w1 w2=>heap.Turned (insS x.b (.slice an x.names.length cn) rj) w1 w2)) (fun w'=>Turned (x.b :: (Value.slice an x.names.length cn).ownBlock.toList) w2 w') (fun ri v w'=>match ri with
   | 0=>v = pV x.b
   | 1=>v = pV x.b
   | 2=>v = .pointer (some ⟨x.b,0,none⟩)
   | 3=>v = .pointer (some ⟨x.b,4,none⟩)
   | 4=>v = .slice an x.names.length cn
   | 5=>v = .int .i64 (kidIx x.names n)
   | 6=>v = .slice an (kidIx x.names n) cn
   | 7=>v = sv n
   | 8=>∃ g1,v = .slice (some ⟨g1,0,none⟩) 1 1 ∧ w2.heap.size ≤ g1 ∧ w'.heap[g1]? = some (.cells #[sv n] 9 (0,0))
   | 9=>v = pV x.b
   | 10=>v = .pointer (some ⟨x.b,0,none⟩)
   | 11=>v = .pointer (some ⟨x.b,4,none⟩)
   | 12=>v = .slice an x.names.length cn
   | 13=>v = .int .i64 (kidIx x.names n)
   | 14=>v = backV an x.names.length cn (kidIx x.names n)
   | 15=>SRow w' w2.heap.size v (n :: x.names.drop (kidIx x.names n))
   | 16=>SRow w' base v (insN x.names n) ∧ (∀ g,v.ownBlock = some g → (Value.slice an x.names.length cn).ownBlock = some g ∨ w2.heap.size ≤ g) ∧ (∃ a c,v = .slice a (insN x.names n).length c)
   | 17=>v = .pointer (some ⟨x.b,0,none⟩)
   | 18=>v = .pointer (some ⟨x.b,4,none⟩)
   | 19=>∃ u,w'.heap[x.b]? = some (bO id x.kind x.mode x.data u x.kv up) ∧ SRow w' base u (insN x.names n) ∧ (∀ g,u.ownBlock = some g → (Value.slice an x.names.length cn).ownBlock = some g ∨ w2.heap.size ≤ g)
   | _=>True) (fun rk w'=>match rk with
   | 16=>SRow w' base (.slice an x.names.length cn) x.names
   | 19=>w'.heap[x.b]? = some (bO id x.kind x.mode x.data (.slice an x.names.length cn) x.kv up)
   | _=>True) ?_ ?_ ?_ ?_ ?_ (by kernel_rfl) ?_ ?_
 ·exact (Turned.refl _ _).drew
 ·
  intro k
  split <;> first | trivial | (first | exact HN2.out | exact HB2.out)
 ·
  intro j w1 w2 h hx
  exact h.trans (hx.mono (fun x hm=>insS_sub hm))
 ·
  intro j i v w1 w2 hij hj hr h hx
  rcases i with _|_|_|_|_|_|_|_|_|_|_|_|_|_|_|_|_|_|_|_|i
  ·exact h
  ·exact h
  ·exact h
  ·exact h
  ·exact h
  ·exact h
  ·exact h
  ·exact h
  ·(obtain ⟨g1,k1,k2,k3⟩:=h;exact ⟨g1,k1,k2,hx.kept k3 (fun hm=>by rcases List.mem_cons.1 (insS_sub hm) with e1 | e1 <;> first | omega | (have:=(HLN.out _ (Option.mem_toList.1 e1)).2;omega))⟩)
  ·exact h
  ·exact h
  ·exact h
  ·exact h
  ·exact h
  ·exact h
  ·exact SRow.turned h hx (fun g hg' hm=>by have k3:=(World.ownsRow.lt h g hg').1;rcases List.mem_cons.1 (insS_sub hm) with e1 | e1 <;> first | omega | (have:=(HLN.out _ (Option.mem_toList.1 e1)).2;omega))
  ·exact ⟨SRow.turned h.1 hx (fun g hg' hm=>by have e2:=insS_16 hm hij;rcases h.2.1 g hg' with e1 | e1 <;> first | (rw [e2] at e1;exact hnbn e1) | omega),h.2⟩
  ·exact h
  ·exact h
  ·exact (reg.last_no (by kernel_rfl) hij hj hr).elim
  ·trivial
 ·
  intro j k w1 w2 hkj h hx
  split at h <;> first | exact h | exact SRow.turned h hx (fun g hg' hm=>hnbn ((insS_16 hm hkj) ▸ hg')) | exact hx.kept h (fun hm=>hnbn (insS_19 hm hkj))
 ·
  refine ⟨?_,?_,?_,?_,?_,?_,?_,?_,?_,?_,?_,?_,?_,?_,?_,?_,?_,?_,?_,?_,trivial⟩
  ·-- 0: slot 30:=Op.move t0
   intro ra w' hx hg hs
   have s0:ra.eval (.tmp 0) = pV x.b:=hs.1
   clear hs
   change Oper.wp _ _ ra w' _ _
   refine reg.wp_value (v:=pV x.b) (w':=w') ?_ ⟨_,rfl,heap.Turned.refl _ _,rfl⟩
   intro ρ rc rf rg re
   rw [re] at s0
   simp [execOp,go_sem,rc,rf,rg,s0] <;> first | omega | rfl | decide
  ·-- 1: slot 31:=Op.move t0
   intro ra w' hx hg hs
   have s0:ra.eval (.tmp 0) = pV x.b:=hs.1
   clear hs
   change Oper.wp _ _ ra w' _ _
   refine reg.wp_value (v:=pV x.b) (w':=w') ?_ ⟨_,rfl,heap.Turned.refl _ _,rfl⟩
   intro ρ rc rf rg re
   rw [re] at s0
   simp [execOp,go_sem,rc,rf,rg,s0] <;> first | omega | rfl | decide
  ·-- 2: slot 32:=Op.nilCheck t31
   intro ra w' hx hg hs
   have s31:ra.eval (.tmp 31) = pV x.b:=hs.1
   clear hs
   change Oper.wp _ _ ra w' _ _
   refine reg.wp_value (v:=.pointer (some ⟨x.b,0,none⟩)) (w':=w') ?_ ⟨_,rfl,heap.Turned.refl _ _,rfl⟩
   intro ρ rc rf rg re
   rw [re] at s31
   simp [execOp,go_sem,rc,rf,rg,s31] <;> first | omega | rfl | decide
  ·-- 3: slot 33:=Op.fieldAddr 62 t32 4
   intro ra w' hx hg hs
   have s32:ra.eval (.tmp 32) = .pointer (some ⟨x.b,0,none⟩):=hs.1
   clear hs
   change Oper.wp _ _ ra w' _ _
   refine reg.wp_value (v:=.pointer (some ⟨x.b,4,none⟩)) (w':=w') ?_ ⟨_,rfl,heap.Turned.refl _ _,rfl⟩
   intro ρ rc rf rg re
   rw [re] at s32
   simp [execOp,go_sem,rc,rf,rg,s32] <;> first | omega | rfl | decide
  ·-- 4: slot 34:=Op.load 59 t33
   intro ra w' hx hg hs
   have s33:ra.eval (.tmp 33) = .pointer (some ⟨x.b,4,none⟩):=hs.1
   clear hs
   change Oper.wp _ _ ra w' _ _
   have hc0:w'.cell? ⟨x.b,4,none⟩ = some (.slice an x.names.length cn):=by rw [blk_cell (hg 19 rfl)];rfl
   refine reg.wp_value (v:=.slice an x.names.length cn) (w':=w') ?_ ⟨_,rfl,heap.Turned.refl _ _,rfl⟩
   intro ρ rc rf rg re
   rw [re] at s33
   simp [execOp,go_sem,rc,rf,rg,s33,hc0] <;> first | omega | rfl | decide
  ·-- 5: slot 35:=Op.move t7
   intro ra w' hx hg hs
   have s7:ra.eval (.tmp 7) = .int .i64 (kidIx x.names n):=hs.1
   clear hs
   change Oper.wp _ _ ra w' _ _
   refine reg.wp_value (v:=.int .i64 (kidIx x.names n)) (w':=w') ?_ ⟨_,rfl,heap.Turned.refl _ _,rfl⟩
   intro ρ rc rf rg re
   rw [re] at s7
   simp [execOp,go_sem,rc,rf,rg,s7] <;> first | omega | rfl | decide
  ·-- 6: slot 36:=Op.slice 59 t34 none (some t35) none
   intro ra w' hx hg hs
   have s34:ra.eval (.tmp 34) = .slice an x.names.length cn:=hs.1
   have s35:ra.eval (.tmp 35) = .int .i64 (kidIx x.names n):=hs.2.1
   clear hs
   change Oper.wp _ _ ra w' _ _
   exact reg.wp_value (runs_slice rfl s34 rfl (congrArg some s35) (HFR.out w')) ⟨_,rfl,heap.Turned.refl _ _,rfl⟩
  ·-- 7: slot 37:=Op.move t1
   intro ra w' hx hg hs
   have s1:ra.eval (.tmp 1) = sv n:=hs.1
   clear hs
   change Oper.wp _ _ ra w' _ _
   refine reg.wp_value (v:=sv n) (w':=w') ?_ ⟨_,rfl,heap.Turned.refl _ _,rfl⟩
   intro ρ rc rf rg re
   rw [re] at s1
   simp [execOp,go_sem,rc,rf,rg,s1] <;> first | omega | rfl | decide
  ·-- 8: slot 38:=Op.buildSlice 59 1 #[(0,t37)]
   intro ra w' hx hg hs
   have s37:ra.eval (.tmp 37) = sv n:=hs.1
   clear hs
   change Oper.wp _ _ ra w' _ _
   refine reg.wp_value (v:=.slice (some ⟨w'.heap.size,0,none⟩) 1 1) (w':=w'.alloc (.cells #[sv n] 9 (0,0))) ?_ ⟨_,rfl,(heap.Turned.refl _ _).alloc _,_,rfl,hx.size,blk_new _ _⟩
   intro ρ rc rf rg re
   rw [re] at s37
   simp [execOp,go_sem,rc,rf,rg,s37] <;> first | omega | rfl | decide
  ·-- 9: slot 39:=Op.move t0
   intro ra w' hx hg hs
   have s0:ra.eval (.tmp 0) = pV x.b:=hs.1
   clear hs
   change Oper.wp _ _ ra w' _ _
   refine reg.wp_value (v:=pV x.b) (w':=w') ?_ ⟨_,rfl,heap.Turned.refl _ _,rfl⟩
   intro ρ rc rf rg re
   rw [re] at s0
   simp [execOp,go_sem,rc,rf,rg,s0] <;> first | omega | rfl | decide
  ·-- 10: slot 40:=Op.nilCheck t39
   intro ra w' hx hg hs
   have s39:ra.eval (.tmp 39) = pV x.b:=hs.1
   clear hs
   change Oper.wp _ _ ra w' _ _
   refine reg.wp_value (v:=.pointer (some ⟨x.b,0,none⟩)) (w':=w') ?_ ⟨_,rfl,heap.Turned.refl _ _,rfl⟩
   intro ρ rc rf rg re
   rw [re] at s39
   simp [execOp,go_sem,rc,rf,rg,s39] <;> first | omega | rfl | decide
  ·-- 11: slot 41:=Op.fieldAddr 62 t40 4
   intro ra w' hx hg hs
   have s40:ra.eval (.tmp 40) = .pointer (some ⟨x.b,0,none⟩):=hs.1
   clear hs
   change Oper.wp _ _ ra w' _ _
   refine reg.wp_value (v:=.pointer (some ⟨x.b,4,none⟩)) (w':=w') ?_ ⟨_,rfl,heap.Turned.refl _ _,rfl⟩
   intro ρ rc rf rg re
   rw [re] at s40
   simp [execOp,go_sem,rc,rf,rg,s40] <;> first | omega | rfl | decide
  ·-- 12: slot 42:=Op.load 59 t41
   intro ra w' hx hg hs
   have s41:ra.eval (.tmp 41) = .pointer (some ⟨x.b,4,none⟩):=hs.1
   clear hs
   change Oper.wp _ _ ra w' _ _
   have hc0:w'.cell? ⟨x.b,4,none⟩ = some (.slice an x.names.length cn):=by rw [blk_cell (hg 19 rfl)];rfl
   refine reg.wp_value (v:=.slice an x.names.length cn) (w':=w') ?_ ⟨_,rfl,heap.Turned.refl _ _,rfl⟩
   intro ρ rc rf rg re
   rw [re] at s41
   simp [execOp,go_sem,rc,rf,rg,s41,hc0] <;> first | omega | rfl | decide
  ·-- 13: slot 43:=Op.move t7
   intro ra w' hx hg hs
   have s7:ra.eval (.tmp 7) = .int .i64 (kidIx x.names n):=hs.1
   clear hs
   change Oper.wp _ _ ra w' _ _
   refine reg.wp_value (v:=.int .i64 (kidIx x.names n)) (w':=w') ?_ ⟨_,rfl,heap.Turned.refl _ _,rfl⟩
   intro ρ rc rf rg re
   rw [re] at s7
   simp [execOp,go_sem,rc,rf,rg,s7] <;> first | omega | rfl | decide
  ·-- 14: slot 44:=Op.slice 59 t42 (some t43) none none
   intro ra w' hx hg hs
   have s42:ra.eval (.tmp 42) = .slice an x.names.length cn:=hs.1
   have s43:ra.eval (.tmp 43) = .int .i64 (kidIx x.names n):=hs.2.1
   clear hs
   change Oper.wp _ _ ra w' _ _
   exact reg.wp_value (runs_slice rfl s42 (congrArg some s43) rfl (HBA.out w')) ⟨_,rfl,heap.Turned.refl _ _,rfl⟩
  ·-- 15: slot 45:=Op.call { builtin append,args := #[t38,t44],argTypes := #[59,59] }
   intro ra w' hx hg hs
   have s38:∃ g1,(ra.eval (.tmp 38)) = .slice (some ⟨g1,0,none⟩) 1 1 ∧ w2.heap.size ≤ g1 ∧ w'.heap[g1]? = some (.cells #[sv n] 9 (0,0)):=hs.1
   have s44:ra.eval (.tmp 44) = backV an x.names.length cn (kidIx x.names n):=hs.2.1
   clear hs
   change Oper.wp _ _ ra w' _ _
   obtain ⟨g1,hv,k2,k3⟩:=s38
   obtain ⟨v2,w3,hrun,hown,hbl,-⟩:=full_ss w' w2.heap.size g1 1 [n] ⟨rfl,.inr ⟨g1,1,_,rfl,k2,k3,Nat.le_refl 1,by decide,rfl,rfl⟩⟩ _ _ (backV_src ((srow_is _ _ _ _).1 (hg 16 rfl)) (kidIx x.names n) hml) hx.size (by simp;omega)
   exact reg.wp_value (reg.runs_append rfl rfl hv s44 hrun) ⟨_,rfl,Turned.of_below hbl,hown⟩
  ·-- 16: slot 46:=Op.call { builtin append,args := #[t36,t45],argTypes := #[59,59] }
   intro ra w' hx hg hs
   have s36:ra.eval (.tmp 36) = .slice an (kidIx x.names n) cn:=hs.1
   have s45:SRow w' w2.heap.size (ra.eval (.tmp 45)) (n :: x.names.drop (kidIx x.names n)):=hs.2.1
   clear hs
   change Oper.wp _ _ ra w' _ _
   have hpre:=ARow.take ((srow_is _ _ _ _).1 (hg 16 rfl)) (kidIx x.names n) hml
   obtain ⟨v2,w3,hrun,hown,hgr,hly,hsh⟩:=app_ss w' base _ _ ((srow_is _ _ _ _).2 hpre) _ _ (SrcR.whole ((srow_is _ _ _ _).1 s45)) (Nat.le_trans (by omega) hx.size) (by simp;omega)
   rw [own_eq an (kidIx x.names n) x.names.length cn cn] at hgr hly
   have hgr2:w'.grownBy w3 (Value.slice an x.names.length cn).ownBlock:=hgr
   exact reg.wp_value (reg.runs_append rfl rfl s36 rfl hrun) ⟨_,rfl,grown_tur hgr2,hown,(fun g hg'=>(hly g hg').imp (fun e=>e) (fun e=>Nat.le_trans hx.size e)),(by obtain ⟨a,c,e⟩:=hsh;exact ⟨a,c,by rw [e];simp [insN]⟩)⟩
  ·-- 17: slot 47:=Op.nilCheck t30
   intro ra w' hx hg hs
   have s30:ra.eval (.tmp 30) = pV x.b:=hs.1
   clear hs
   change Oper.wp _ _ ra w' _ _
   refine reg.wp_value (v:=.pointer (some ⟨x.b,0,none⟩)) (w':=w') ?_ ⟨_,rfl,heap.Turned.refl _ _,rfl⟩
   intro ρ rc rf rg re
   rw [re] at s30
   simp [execOp,go_sem,rc,rf,rg,s30] <;> first | omega | rfl | decide
  ·-- 18: slot 48:=Op.fieldAddr 62 t47 4
   intro ra w' hx hg hs
   have s47:ra.eval (.tmp 47) = .pointer (some ⟨x.b,0,none⟩):=hs.1
   clear hs
   change Oper.wp _ _ ra w' _ _
   refine reg.wp_value (v:=.pointer (some ⟨x.b,4,none⟩)) (w':=w') ?_ ⟨_,rfl,heap.Turned.refl _ _,rfl⟩
   intro ρ rc rf rg re
   rw [re] at s47
   simp [execOp,go_sem,rc,rf,rg,s47] <;> first | omega | rfl | decide
  ·-- 19: slot None:=Op.store 59 t48 t46
   intro ra w' hx hg hs
   have s48:ra.eval (.tmp 48) = .pointer (some ⟨x.b,4,none⟩):=hs.1
   have s46:SRow w' base (ra.eval (.tmp 46)) (insN x.names n) ∧ (∀ g,(ra.eval (.tmp 46)).ownBlock = some g → (Value.slice an x.names.length cn).ownBlock = some g ∨ w2.heap.size ≤ g) ∧ (∃ a c,(ra.eval (.tmp 46)) = .slice a (insN x.names n).length c):=hs.2.1
   clear hs
   change Oper.wp _ _ ra w' _ _
   have hbk:=hg 19 rfl
   have hc0:w'.cell? ⟨x.b,4,none⟩ = some (.slice an x.names.length cn):=by rw [blk_cell hbk];rfl
   have hf0:=blk_free hbk 4
   obtain ⟨k1,k2,a,c,hv⟩:=s46
   refine reg.wp_skip (w':=w'.setCell ⟨x.b,4,none⟩ (ra.eval (.tmp 46))) ?_ ⟨_,rfl,(heap.Turned.refl _ _).setCell (by simp [insS]) _,_,blk_set hbk 4 _,SRow.turned k1 ((heap.Turned.refl [x.b] _).setCell (by simp) _) (fun g hg' hm=>by have e2:=List.mem_singleton.1 hm;rcases k2 g hg' with e1 | e1 <;> first | (rw [e2] at e1;exact hnbn e1) | omega),k2⟩
   rw [hv]
   intro ρ rc rf rg re
   rw [re] at hv s48
   simp [execOp,go_sem,hv,s48,hc0,hf0]
 intro rV w6 hx6 hf
 have ve0:rV 0 = pV x.b:=hf 0 (by decide)
 have ve1:rV 1 = pV x.b:=hf 1 (by decide)
 have ve2:rV 2 = .pointer (some ⟨x.b,0,none⟩):=hf 2 (by decide)
 have ve3:rV 3 = .pointer (some ⟨x.b,4,none⟩):=hf 3 (by decide)
 have ve4:rV 4 = .slice an x.names.length cn:=hf 4 (by decide)
 have ve5:rV 5 = .int .i64 (kidIx x.names n):=hf 5 (by decide)
 have ve6:rV 6 = .slice an (kidIx x.names n) cn:=hf 6 (by decide)
 have ve7:rV 7 = sv n:=hf 7 (by decide)
 have ve8:=hf 8 (by decide)
 have ve9:rV 9 = pV x.b:=hf 9 (by decide)
 have ve10:rV 10 = .pointer (some ⟨x.b,0,none⟩):=hf 10 (by decide)
 have ve11:rV 11 = .pointer (some ⟨x.b,4,none⟩):=hf 11 (by decide)
 have ve12:rV 12 = .slice an x.names.length cn:=hf 12 (by decide)
 have ve13:rV 13 = .int .i64 (kidIx x.names n):=hf 13 (by decide)
 have ve14:rV 14 = backV an x.names.length cn (kidIx x.names n):=hf 14 (by decide)
 have ve15:=hf 15 (by decide)
 have ve16:=hf 16 (by decide)
 have ve17:rV 17 = .pointer (some ⟨x.b,0,none⟩):=hf 17 (by decide)
 have ve18:rV 18 = .pointer (some ⟨x.b,4,none⟩):=hf 18 (by decide)
 have ve19:=hf 19 (by decide)
 clear hf
 simp only [List.zipIdx_cons,List.zipIdx_nil,List.foldl_cons,List.foldl_nil,Act.put,Nat.reduceAdd,List.setIfInBounds_toArray,List.set_cons_succ,List.set_cons_zero,ve0,ve1,ve2,ve3,ve4,ve5,ve6,ve7,ve9,ve10,ve11,ve12,ve13,ve14,ve17,ve18]
 clear ve0 ve1 ve2 ve3 ve4 ve5 ve6 ve7 ve9 ve10 ve11 ve12 ve13 ve14 ve17 ve18
 generalize rV 8 = v8 at *
 generalize rV 15 = v15 at *
 generalize rV 16 = v16 at *
 generalize rV 19 = v19 at *
 clear rV
 obtain ⟨nv5,hb6,hr6,ho6⟩:=ve19
 have hks6:KRow w6 base x.kv x.kids:=hks2.turned hx6 (fun g hg hm=>by
  rcases List.mem_cons.1 hm with e1 | e1
  ·rw [e1] at hg;exact hnbk hg
  ·exact hnk g (Option.mem_toList.1 e1) hg)
 have hmk:kidIx x.names n ≤ x.kids.length:=by omega
 have hbase6:base ≤ w6.heap.size:=by have:=hx6.size;omega
 have hlk:∀ g,x.kv.ownBlock = some g → base ≤ g ∧ g < w.heap.size:=fun g hg=>h.lt (mem_blks.2 (.inr (.inr hg)))
 have hlk6:∀ g,x.kv.ownBlock = some g → base ≤ g ∧ g < w6.heap.size:=fun g hg=>⟨(hlk g hg).1,by have:=(hlk g hg).2;have:=hx6.size;omega⟩
 have hbx6:x.b < w6.heap.size:=by have:=hx6.size;omega
 rw [ek] at hnbk hnk hb6 hks6 hlk6
 have HLK:=Lib.hid hlk6
 have HB6:=Lib.hid hb6
 have HK6:=Lib.hid hks6
 have HFK:=Lib.hid (fun W=>run_frontK ak x.kids.length ck (kidIx x.names n) (by omega) hk1 hk2 W)
 have HBK:=Lib.hid (fun W=>run_backK ak x.kids.length ck (kidIx x.names n) hmk hck W)
 have HR6:=Lib.hid (And.intro hr6 (And.intro ho6 (And.intro hx6 (And.intro hT2 (And.intro hz2 (And.intro hlk hnk))))))
 clear ve8 ve15 ve16 hx6 hr6 ho6 hks6 hks2 hlk hlk6 HFR HBA HN2 HB2 hT2 hz2 hb6 hk1 hk2
 go_wp2_with fail
 refine reg.region_eachG (by kernel_rfl) ((fun rj w1 w2=>heap.Turned (insS x.b (.slice ak x.kids.length ck) rj) w1 w2)) (fun w'=>Turned (x.b :: (Value.slice ak x.kids.length ck).ownBlock.toList) w6 w') (fun ri v w'=>match ri with
   | 0=>v = pV x.b
   | 1=>v = pV x.b
   | 2=>v = .pointer (some ⟨x.b,0,none⟩)
   | 3=>v = .pointer (some ⟨x.b,5,none⟩)
   | 4=>v = .slice ak x.kids.length ck
   | 5=>v = .int .i64 (kidIx x.names n)
   | 6=>v = .slice ak (kidIx x.names n) ck
   | 7=>v = pV zb
   | 8=>∃ g1,v = .slice (some ⟨g1,0,none⟩) 1 1 ∧ w6.heap.size ≤ g1 ∧ w'.heap[g1]? = some (.cells #[pV zb] 55 (0,0))
   | 9=>v = pV x.b
   | 10=>v = .pointer (some ⟨x.b,0,none⟩)
   | 11=>v = .pointer (some ⟨x.b,5,none⟩)
   | 12=>v = .slice ak x.kids.length ck
   | 13=>v = .int .i64 (kidIx x.names n)
   | 14=>v = backV ak x.kids.length ck (kidIx x.names n)
   | 15=>KRow w' w6.heap.size v (zb :: x.kids.drop (kidIx x.names n))
   | 16=>KRow w' base v ((x.kids.take (kidIx x.names n) ++ zb :: x.kids.drop (kidIx x.names n))) ∧ (∀ g,v.ownBlock = some g → (Value.slice ak x.kids.length ck).ownBlock = some g ∨ w6.heap.size ≤ g) ∧ (∃ a c,v = .slice a ((x.kids.take (kidIx x.names n) ++ zb :: x.kids.drop (kidIx x.names n))).length c)
   | 17=>v = .pointer (some ⟨x.b,0,none⟩)
   | 18=>v = .pointer (some ⟨x.b,5,none⟩)
   | 19=>∃ u,w'.heap[x.b]? = some (bO id x.kind x.mode x.data nv5 u up) ∧ KRow w' base u ((x.kids.take (kidIx x.names n) ++ zb :: x.kids.drop (kidIx x.names n))) ∧ (∀ g,u.ownBlock = some g → (Value.slice ak x.kids.length ck).ownBlock = some g ∨ w6.heap.size ≤ g)
   | _=>True) (fun rk w'=>match rk with
   | 16=>KRow w' base (.slice ak x.kids.length ck) x.kids
   | 19=>w'.heap[x.b]? = some (bO id x.kind x.mode x.data nv5 (.slice ak x.kids.length ck) up)
   | _=>True) ?_ ?_ ?_ ?_ ?_ (by kernel_rfl) ?_ ?_
 ·exact (Turned.refl _ _).drew
 ·
  intro k
  split <;> first | trivial | (first | exact HK6.out | exact HB6.out)
 ·
  intro j w1 w2 h hx
  exact h.trans (hx.mono (fun x hm=>insS_sub hm))
 ·
  intro j i v w1 w2 hij hj hr h hx
  rcases i with _|_|_|_|_|_|_|_|_|_|_|_|_|_|_|_|_|_|_|_|i
  ·exact h
  ·exact h
  ·exact h
  ·exact h
  ·exact h
  ·exact h
  ·exact h
  ·exact h
  ·(obtain ⟨g1,k1,k2,k3⟩:=h;exact ⟨g1,k1,k2,hx.kept k3 (fun hm=>by rcases List.mem_cons.1 (insS_sub hm) with e1 | e1 <;> first | omega | (have:=(HLK.out _ (Option.mem_toList.1 e1)).2;omega))⟩)
  ·exact h
  ·exact h
  ·exact h
  ·exact h
  ·exact h
  ·exact h
  ·exact KRow.turned h hx (fun g hg' hm=>by have k3:=(KRow.lt h hg').1;rcases List.mem_cons.1 (insS_sub hm) with e1 | e1 <;> first | omega | (have:=(HLK.out _ (Option.mem_toList.1 e1)).2;omega))
  ·exact ⟨KRow.turned h.1 hx (fun g hg' hm=>by have e2:=insS_16 hm hij;rcases h.2.1 g hg' with e1 | e1 <;> first | (rw [e2] at e1;exact hnbk e1) | omega),h.2⟩
  ·exact h
  ·exact h
  ·exact (reg.last_no (by kernel_rfl) hij hj hr).elim
  ·trivial
 ·
  intro j k w1 w2 hkj h hx
  split at h <;> first | exact h | exact KRow.turned h hx (fun g hg' hm=>hnbk ((insS_16 hm hkj) ▸ hg')) | exact hx.kept h (fun hm=>hnbk (insS_19 hm hkj))
 ·
  refine ⟨?_,?_,?_,?_,?_,?_,?_,?_,?_,?_,?_,?_,?_,?_,?_,?_,?_,?_,?_,?_,trivial⟩
  ·-- 0: slot 49:=Op.move t0
   intro ra w' hx hg hs
   have s0:ra.eval (.tmp 0) = pV x.b:=hs.1
   clear hs
   change Oper.wp _ _ ra w' _ _
   refine reg.wp_value (v:=pV x.b) (w':=w') ?_ ⟨_,rfl,heap.Turned.refl _ _,rfl⟩
   intro ρ rc rf rg re
   rw [re] at s0
   simp [execOp,go_sem,rc,rf,rg,s0] <;> first | omega | rfl | decide
  ·-- 1: slot 50:=Op.move t0
   intro ra w' hx hg hs
   have s0:ra.eval (.tmp 0) = pV x.b:=hs.1
   clear hs
   change Oper.wp _ _ ra w' _ _
   refine reg.wp_value (v:=pV x.b) (w':=w') ?_ ⟨_,rfl,heap.Turned.refl _ _,rfl⟩
   intro ρ rc rf rg re
   rw [re] at s0
   simp [execOp,go_sem,rc,rf,rg,s0] <;> first | omega | rfl | decide
  ·-- 2: slot 51:=Op.nilCheck t50
   intro ra w' hx hg hs
   have s50:ra.eval (.tmp 50) = pV x.b:=hs.1
   clear hs
   change Oper.wp _ _ ra w' _ _
   refine reg.wp_value (v:=.pointer (some ⟨x.b,0,none⟩)) (w':=w') ?_ ⟨_,rfl,heap.Turned.refl _ _,rfl⟩
   intro ρ rc rf rg re
   rw [re] at s50
   simp [execOp,go_sem,rc,rf,rg,s50] <;> first | omega | rfl | decide
  ·-- 3: slot 52:=Op.fieldAddr 62 t51 5
   intro ra w' hx hg hs
   have s51:ra.eval (.tmp 51) = .pointer (some ⟨x.b,0,none⟩):=hs.1
   clear hs
   change Oper.wp _ _ ra w' _ _
   refine reg.wp_value (v:=.pointer (some ⟨x.b,5,none⟩)) (w':=w') ?_ ⟨_,rfl,heap.Turned.refl _ _,rfl⟩
   intro ρ rc rf rg re
   rw [re] at s51
   simp [execOp,go_sem,rc,rf,rg,s51] <;> first | omega | rfl | decide
  ·-- 4: slot 53:=Op.load 60 t52
   intro ra w' hx hg hs
   have s52:ra.eval (.tmp 52) = .pointer (some ⟨x.b,5,none⟩):=hs.1
   clear hs
   change Oper.wp _ _ ra w' _ _
   have hc0:w'.cell? ⟨x.b,5,none⟩ = some (.slice ak x.kids.length ck):=by rw [blk_cell (hg 19 rfl)];rfl
   refine reg.wp_value (v:=.slice ak x.kids.length ck) (w':=w') ?_ ⟨_,rfl,heap.Turned.refl _ _,rfl⟩
   intro ρ rc rf rg re
   rw [re] at s52
   simp [execOp,go_sem,rc,rf,rg,s52,hc0] <;> first | omega | rfl | decide
  ·-- 5: slot 54:=Op.move t7
   intro ra w' hx hg hs
   have s7:ra.eval (.tmp 7) = .int .i64 (kidIx x.names n):=hs.1
   clear hs
   change Oper.wp _ _ ra w' _ _
   refine reg.wp_value (v:=.int .i64 (kidIx x.names n)) (w':=w') ?_ ⟨_,rfl,heap.Turned.refl _ _,rfl⟩
   intro ρ rc rf rg re
   rw [re] at s7
   simp [execOp,go_sem,rc,rf,rg,s7] <;> first | omega | rfl | decide
  ·-- 6: slot 55:=Op.slice 60 t53 none (some t54) none
   intro ra w' hx hg hs
   have s53:ra.eval (.tmp 53) = .slice ak x.kids.length ck:=hs.1
   have s54:ra.eval (.tmp 54) = .int .i64 (kidIx x.names n):=hs.2.1
   clear hs
   change Oper.wp _ _ ra w' _ _
   exact reg.wp_value (runs_slice rfl s53 rfl (congrArg some s54) (HFK.out w')) ⟨_,rfl,heap.Turned.refl _ _,rfl⟩
  ·-- 7: slot 56:=Op.move t2
   intro ra w' hx hg hs
   have s2:ra.eval (.tmp 2) = pV zb:=hs.1
   clear hs
   change Oper.wp _ _ ra w' _ _
   refine reg.wp_value (v:=pV zb) (w':=w') ?_ ⟨_,rfl,heap.Turned.refl _ _,rfl⟩
   intro ρ rc rf rg re
   rw [re] at s2
   simp [execOp,go_sem,rc,rf,rg,s2] <;> first | omega | rfl | decide
  ·-- 8: slot 57:=Op.buildSlice 60 1 #[(0,t56)]
   intro ra w' hx hg hs
   have s56:ra.eval (.tmp 56) = pV zb:=hs.1
   clear hs
   change Oper.wp _ _ ra w' _ _
   refine reg.wp_value (v:=.slice (some ⟨w'.heap.size,0,none⟩) 1 1) (w':=w'.alloc (.cells #[pV zb] 55 (0,0))) ?_ ⟨_,rfl,(heap.Turned.refl _ _).alloc _,_,rfl,hx.size,blk_new _ _⟩
   intro ρ rc rf rg re
   rw [re] at s56
   simp [execOp,go_sem,rc,rf,rg,s56] <;> first | omega | rfl | decide
  ·-- 9: slot 58:=Op.move t0
   intro ra w' hx hg hs
   have s0:ra.eval (.tmp 0) = pV x.b:=hs.1
   clear hs
   change Oper.wp _ _ ra w' _ _
   refine reg.wp_value (v:=pV x.b) (w':=w') ?_ ⟨_,rfl,heap.Turned.refl _ _,rfl⟩
   intro ρ rc rf rg re
   rw [re] at s0
   simp [execOp,go_sem,rc,rf,rg,s0] <;> first | omega | rfl | decide
  ·-- 10: slot 59:=Op.nilCheck t58
   intro ra w' hx hg hs
   have s58:ra.eval (.tmp 58) = pV x.b:=hs.1
   clear hs
   change Oper.wp _ _ ra w' _ _
   refine reg.wp_value (v:=.pointer (some ⟨x.b,0,none⟩)) (w':=w') ?_ ⟨_,rfl,heap.Turned.refl _ _,rfl⟩
   intro ρ rc rf rg re
   rw [re] at s58
   simp [execOp,go_sem,rc,rf,rg,s58] <;> first | omega | rfl | decide
  ·-- 11: slot 60:=Op.fieldAddr 62 t59 5
   intro ra w' hx hg hs
   have s59:ra.eval (.tmp 59) = .pointer (some ⟨x.b,0,none⟩):=hs.1
   clear hs
   change Oper.wp _ _ ra w' _ _
   refine reg.wp_value (v:=.pointer (some ⟨x.b,5,none⟩)) (w':=w') ?_ ⟨_,rfl,heap.Turned.refl _ _,rfl⟩
   intro ρ rc rf rg re
   rw [re] at s59
   simp [execOp,go_sem,rc,rf,rg,s59] <;> first | omega | rfl | decide
  ·-- 12: slot 61:=Op.load 60 t60
   intro ra w' hx hg hs
   have s60:ra.eval (.tmp 60) = .pointer (some ⟨x.b,5,none⟩):=hs.1
   clear hs
   change Oper.wp _ _ ra w' _ _
   have hc0:w'.cell? ⟨x.b,5,none⟩ = some (.slice ak x.kids.length ck):=by rw [blk_cell (hg 19 rfl)];rfl
   refine reg.wp_value (v:=.slice ak x.kids.length ck) (w':=w') ?_ ⟨_,rfl,heap.Turned.refl _ _,rfl⟩
   intro ρ rc rf rg re
   rw [re] at s60
   simp [execOp,go_sem,rc,rf,rg,s60,hc0] <;> first | omega | rfl | decide
  ·-- 13: slot 62:=Op.move t7
   intro ra w' hx hg hs
   have s7:ra.eval (.tmp 7) = .int .i64 (kidIx x.names n):=hs.1
   clear hs
   change Oper.wp _ _ ra w' _ _
   refine reg.wp_value (v:=.int .i64 (kidIx x.names n)) (w':=w') ?_ ⟨_,rfl,heap.Turned.refl _ _,rfl⟩
   intro ρ rc rf rg re
   rw [re] at s7
   simp [execOp,go_sem,rc,rf,rg,s7] <;> first | omega | rfl | decide
  ·-- 14: slot 63:=Op.slice 60 t61 (some t62) none none
   intro ra w' hx hg hs
   have s61:ra.eval (.tmp 61) = .slice ak x.kids.length ck:=hs.1
   have s62:ra.eval (.tmp 62) = .int .i64 (kidIx x.names n):=hs.2.1
   clear hs
   change Oper.wp _ _ ra w' _ _
   exact reg.wp_value (runs_slice rfl s61 (congrArg some s62) rfl (HBK.out w')) ⟨_,rfl,heap.Turned.refl _ _,rfl⟩
  ·-- 15: slot 64:=Op.call { builtin append,args := #[t57,t63],argTypes := #[60,60] }
   intro ra w' hx hg hs
   have s57:∃ g1,(ra.eval (.tmp 57)) = .slice (some ⟨g1,0,none⟩) 1 1 ∧ w6.heap.size ≤ g1 ∧ w'.heap[g1]? = some (.cells #[pV zb] 55 (0,0)):=hs.1
   have s63:ra.eval (.tmp 63) = backV ak x.kids.length ck (kidIx x.names n):=hs.2.1
   clear hs
   change Oper.wp _ _ ra w' _ _
   obtain ⟨g1,hv,k2,k3⟩:=s57
   obtain ⟨v2,w3,hrun,hown,hbl,-⟩:=full_kk w' w6.heap.size g1 1 [zb] ⟨rfl,.inr ⟨g1,1,_,rfl,k2,k3,Nat.le_refl 1,by decide,rfl,rfl⟩⟩ _ _ (backV_src ((krow_is _ _ _ _).1 (hg 16 rfl)) (kidIx x.names n) hmk) hx.size (by simp;omega)
   exact reg.wp_value (reg.runs_append rfl rfl hv s63 hrun) ⟨_,rfl,Turned.of_below hbl,hown⟩
  ·-- 16: slot 65:=Op.call { builtin append,args := #[t55,t64],argTypes := #[60,60] }
   intro ra w' hx hg hs
   have s55:ra.eval (.tmp 55) = .slice ak (kidIx x.names n) ck:=hs.1
   have s64:KRow w' w6.heap.size (ra.eval (.tmp 64)) (zb :: x.kids.drop (kidIx x.names n)):=hs.2.1
   clear hs
   change Oper.wp _ _ ra w' _ _
   have hpre:=ARow.take ((krow_is _ _ _ _).1 (hg 16 rfl)) (kidIx x.names n) hmk
   obtain ⟨v2,w3,hrun,hown,hgr,hly,hsh⟩:=app_kk w' base _ _ ((krow_is _ _ _ _).2 hpre) _ _ (SrcR.whole ((krow_is _ _ _ _).1 s64)) (Nat.le_trans hbase6 hx.size) (by simp;omega)
   rw [own_eq ak (kidIx x.names n) x.kids.length ck ck] at hgr hly
   have hgr2:w'.grownBy w3 (Value.slice ak x.kids.length ck).ownBlock:=hgr
   exact reg.wp_value (reg.runs_append rfl rfl s55 rfl hrun) ⟨_,rfl,grown_tur hgr2,hown,(fun g hg'=>(hly g hg').imp (fun e=>e) (fun e=>Nat.le_trans hx.size e)),(by obtain ⟨a,c,e⟩:=hsh;exact ⟨a,c,by rw [e];simp⟩)⟩
  ·-- 17: slot 66:=Op.nilCheck t49
   intro ra w' hx hg hs
   have s49:ra.eval (.tmp 49) = pV x.b:=hs.1
   clear hs
   change Oper.wp _ _ ra w' _ _
   refine reg.wp_value (v:=.pointer (some ⟨x.b,0,none⟩)) (w':=w') ?_ ⟨_,rfl,heap.Turned.refl _ _,rfl⟩
   intro ρ rc rf rg re
   rw [re] at s49
   simp [execOp,go_sem,rc,rf,rg,s49] <;> first | omega | rfl | decide
  ·-- 18: slot 67:=Op.fieldAddr 62 t66 5
   intro ra w' hx hg hs
   have s66:ra.eval (.tmp 66) = .pointer (some ⟨x.b,0,none⟩):=hs.1
   clear hs
   change Oper.wp _ _ ra w' _ _
   refine reg.wp_value (v:=.pointer (some ⟨x.b,5,none⟩)) (w':=w') ?_ ⟨_,rfl,heap.Turned.refl _ _,rfl⟩
   intro ρ rc rf rg re
   rw [re] at s66
   simp [execOp,go_sem,rc,rf,rg,s66] <;> first | omega | rfl | decide
  ·-- 19: slot None:=Op.store 60 t67 t65
   intro ra w' hx hg hs
   have s67:ra.eval (.tmp 67) = .pointer (some ⟨x.b,5,none⟩):=hs.1
   have s65:KRow w' base (ra.eval (.tmp 65)) ((x.kids.take (kidIx x.names n) ++ zb :: x.kids.drop (kidIx x.names n))) ∧ (∀ g,(ra.eval (.tmp 65)).ownBlock = some g → (Value.slice ak x.kids.length ck).ownBlock = some g ∨ w6.heap.size ≤ g) ∧ (∃ a c,(ra.eval (.tmp 65)) = .slice a ((x.kids.take (kidIx x.names n) ++ zb :: x.kids.drop (kidIx x.names n))).length c):=hs.2.1
   clear hs
   change Oper.wp _ _ ra w' _ _
   have hbk:=hg 19 rfl
   have hc0:w'.cell? ⟨x.b,5,none⟩ = some (.slice ak x.kids.length ck):=by rw [blk_cell hbk];rfl
   have hf0:=blk_free hbk 5
   obtain ⟨k1,k2,a,c,hv⟩:=s65
   refine reg.wp_skip (w':=w'.setCell ⟨x.b,5,none⟩ (ra.eval (.tmp 65))) ?_ ⟨_,rfl,(heap.Turned.refl _ _).setCell (by simp [insS]) _,_,blk_set hbk 5 _,KRow.turned k1 ((heap.Turned.refl [x.b] _).setCell (by simp) _) (fun g hg' hm=>by have e2:=List.mem_singleton.1 hm;rcases k2 g hg' with e1 | e1 <;> first | (rw [e2] at e1;exact hnbk e1) | omega),k2⟩
   rw [hv]
   intro ρ rc rf rg re
   rw [re] at hv s67
   simp [execOp,go_sem,hv,s67,hc0,hf0]
 intro rV w7 hx7 hf
 have ve0:rV 0 = pV x.b:=hf 0 (by decide)
 have ve1:rV 1 = pV x.b:=hf 1 (by decide)
 have ve2:rV 2 = .pointer (some ⟨x.b,0,none⟩):=hf 2 (by decide)
 have ve3:rV 3 = .pointer (some ⟨x.b,5,none⟩):=hf 3 (by decide)
 have ve4:rV 4 = .slice ak x.kids.length ck:=hf 4 (by decide)
 have ve5:rV 5 = .int .i64 (kidIx x.names n):=hf 5 (by decide)
 have ve6:rV 6 = .slice ak (kidIx x.names n) ck:=hf 6 (by decide)
 have ve7:rV 7 = pV zb:=hf 7 (by decide)
 have ve8:=hf 8 (by decide)
 have ve9:rV 9 = pV x.b:=hf 9 (by decide)
 have ve10:rV 10 = .pointer (some ⟨x.b,0,none⟩):=hf 10 (by decide)
 have ve11:rV 11 = .pointer (some ⟨x.b,5,none⟩):=hf 11 (by decide)
 have ve12:rV 12 = .slice ak x.kids.length ck:=hf 12 (by decide)
 have ve13:rV 13 = .int .i64 (kidIx x.names n):=hf 13 (by decide)
 have ve14:rV 14 = backV ak x.kids.length ck (kidIx x.names n):=hf 14 (by decide)
 have ve15:=hf 15 (by decide)
 have ve16:=hf 16 (by decide)
 have ve17:rV 17 = .pointer (some ⟨x.b,0,none⟩):=hf 17 (by decide)
 have ve18:rV 18 = .pointer (some ⟨x.b,5,none⟩):=hf 18 (by decide)
 have ve19:=hf 19 (by decide)
 clear hf
 simp only [List.zipIdx_cons,List.zipIdx_nil,List.foldl_cons,List.foldl_nil,Act.put,Nat.reduceAdd,List.setIfInBounds_toArray,List.set_cons_succ,List.set_cons_zero,ve0,ve1,ve2,ve3,ve4,ve5,ve6,ve7,ve9,ve10,ve11,ve12,ve13,ve14,ve17,ve18]
 clear ve0 ve1 ve2 ve3 ve4 ve5 ve6 ve7 ve9 ve10 ve11 ve12 ve13 ve14 ve17 ve18
 generalize rV 8 = v8 at *
 generalize rV 15 = v15 at *
 generalize rV 16 = v16 at *
 generalize rV 19 = v19 at *
 clear rV
 obtain ⟨kv7,hb7,hr7,ho7⟩:=ve19
 obtain ⟨hr6,ho6,hx6,hT2,hz2,hlk,hnk'⟩:=HR6.out
 have hlt6:∀ g,nv5.ownBlock = some g → base ≤ g ∧ g < w6.heap.size:=fun g hg=>World.ownsRow.lt hr6 g hg
 have hn5b:nv5.ownBlock ≠ some x.b:=fun e=>by
  rcases ho6 _ e with e1 | e1
  ·exact hnbn e1
  ·omega
 have hn5k:∀ g,nv5.ownBlock = some g → (Value.slice ak x.kids.length ck).ownBlock ≠ some g:=fun g e1 e2=>by
  rcases ho6 _ e1 with e3 | e3
  ·exact hnk' g e3 e2
  ·rw [← ek] at e2
   have:=(hlk g e2).2
   omega
 have hr67:SRow w7 base nv5 (insN x.names n):=hr6.turned hx7 (fun g hg hm=>by
  rcases List.mem_cons.1 hm with e1 | e1
  ·rw [e1] at hg;exact hn5b hg
  ·exact hn5k g hg (Option.mem_toList.1 e1))
 have hzw:zb < w2.heap.size:=blk_lt hz2
 have hzn:(Value.slice an x.names.length cn).ownBlock ≠ some zb:=fun e=>hne (mem_blks.2 (.inr (.inl (by rw [en];exact e))))
 have hzk:(Value.slice ak x.kids.length ck).ownBlock ≠ some zb:=fun e=>hne (mem_blks.2 (.inr (.inr (by rw [ek];exact e))))
 have hz7:w7.heap[zb]? = some (bO zid zkind zmode zdata znv zkv (pV x.b)):=hx7.kept (hx6.kept hz2 (fun hm=>by
  rcases List.mem_cons.1 hm with e1 | e1
  ·exact hxz e1.symm
  ·exact hzn (Option.mem_toList.1 e1))) (fun hm=>by
  rcases List.mem_cons.1 hm with e1 | e1
  ·exact hxz e1.symm
  ·exact hzk (Option.mem_toList.1 e1))
 have hall:Turned (zb :: blks x) w w7:=((hT2.mono (fun y hy=>by rw [List.mem_singleton.1 hy];exact List.mem_cons_self)).trans (hx6.mono (fun y hy=>by
  rcases List.mem_cons.1 hy with e1 | e1
  ·exact List.mem_cons_of_mem _ (mem_blks.2 (.inl e1))
  ·exact List.mem_cons_of_mem _ (mem_blks.2 (.inr (.inl (by rw [en];exact Option.mem_toList.1 e1))))))).trans (hx7.mono (fun y hy=>by
  rcases List.mem_cons.1 hy with e1 | e1
  ·exact List.mem_cons_of_mem _ (mem_blks.2 (.inl e1))
  ·exact List.mem_cons_of_mem _ (mem_blks.2 (.inr (.inr (by rw [ek];exact Option.mem_toList.1 e1))))))
 have hs6:w.heap.size ≤ w6.heap.size:=by have:=hx6.size;omega
 have HFIN:Hid (∃ nv kv,NodeAt w7 base { x with names:=insN x.names n,kids:=x.kids.take (kidIx x.names n) ++ zb :: x.kids.drop (kidIx x.names n),nv:=nv,kv:=kv } ∧
   (∀ g,nv.ownBlock = some g → x.nv.ownBlock = some g ∨ w.heap.size ≤ g) ∧ (∀ g,kv.ownBlock = some g → x.kv.ownBlock = some g ∨ w.heap.size ≤ g) ∧ (∀ g,nv.ownBlock = some g → kv.ownBlock ≠ some g) ∧ (∃ up,w7.heap[zb]? = some (bO zid zkind zmode zdata znv zkv up)) ∧ Turned (zb :: blks x) w w7):=by
  refine ⟨nv5,kv7,⟨⟨id,up,hb7⟩,h.own,hr67,hr7⟩,fun g hg => ?_,fun g hg => ?_,fun g hg hk => ?_,⟨_,hz7⟩,hall⟩
  ·rw [en]
   exact (ho6 g hg).imp (fun e=>e) (fun e=>by omega)
  ·rw [ek]
   exact (ho7 g hg).imp (fun e=>e) (fun e=>by omega)
  ·rcases ho7 g hk with e | e
   ·exact hn5k g hg e
   ·have:=(hlt6 g hg).2
    omega
 clear ve8 ve15 ve16 HR6 HFK HBK HK6 HB6 hx7 hall hz7
 go_wp2_with fail
 go_end0
 exact ⟨rfl,HFIN.out⟩
theorem KRow.set {w:World} {base g n c:Nat} {ks:List Nat} (h:KRow w base (.slice (some ⟨g,0,none⟩) n c) ks) (j:Nat) (q:Nat) (hj:j < ks.length):KRow (w.setCell ⟨g,j,none⟩ (pV q)) base (.slice (some ⟨g,0,none⟩) n c) (ks.set j q):=by
 obtain ⟨hl,⟨e1,h0⟩ | ⟨g',c',cur,e1,h2,h3,h4,h5,h6,h7⟩⟩:=h
 ·cases e1
 ·simp only [Value.slice.injEq,Option.some.injEq,Addr.mk.injEq] at e1
  obtain ⟨⟨rfl,-,-⟩,rfl,rfl⟩:=e1
  refine ⟨by simp,.inr ⟨g,c,cur.setIfInBounds j (pV q),by simp,h2,blk_set h3 j _,by simpa using h4,h5,by simpa using h6,?_⟩⟩
  rw [List.length_set,Array.toList_setIfInBounds,List.take_set,h7,List.map_set]
set_option maxHeartbeats 4000000 in
theorem put_old (base:Nat) (x:BN) (n:Nm) (zb q:Nat) (zid zkind zmode:Int) (zdata:Nm) (znv zkv zup:Value) (qid qkind qmode:Int) (qdata:Nm) (qnv qkv qup:Value) (w:World) (h:NodeAt w base x) (hyes:x.names[kidIx x.names n]? = some n) (hq:x.kids[kidIx x.names n]? = some q) (hlen:x.names.length = x.kids.length) (hsz:x.names.length ≤ 1000000000)
  (hz:w.heap[zb]? = some (bO zid zkind zmode zdata znv zkv zup)) (hne:zb ∉ blks x) (hnd:(blks x).Nodup) (hqb:w.heap[q]? = some (bO qid qkind qmode qdata qnv qkv qup)) (hqn:q ∉ blks x) (hqz:q ≠ zb) :
  Calls Tryz.prog 61 #[pV x.b,sv n,pV zb] w fun e w'=>e = .returned (.tuple #[]) ∧ NodeAt w' base { x with kids:=x.kids.set (kidIx x.names n) zb } ∧ (∃ up,w'.heap[zb]? = some (bO zid zkind zmode zdata znv zkv up)) ∧ Turned (zb :: q :: blks x) w w':=by
 have HKA:=Lib.hid ((kid_any base x n w h hlen hsz).mono fun e w' ⟨hk,hw⟩=>(show e = Ending.returned (.tuple #[pV q,.int .i64 (kidIx x.names n)]) ∧ w = w' from ⟨by
  rcases hk with ⟨c,h1,h2,h3⟩ | ⟨h1,-⟩
  ·rw [hq] at h2;rw [h3,← Option.some.inj h2]
  ·exact absurd hyes h1,hw⟩))
 obtain ⟨id,up,hb⟩:=h.blk
 have hml:kidIx x.names n < x.kids.length:=(List.getElem?_eq_some_iff.1 hq).1
 have f6:w.frozen? ⟨zb,6,none⟩ = false:=blk_free hz 6
 have c6:w.cell? ⟨zb,6,none⟩ = some zup:=by rw [blk_cell hz];rfl
 have hxz:x.b ≠ zb:=fun e=>hne (mem_blks.2 (.inl e.symm))
 have hxq:x.b ≠ q:=fun e=>hqn (mem_blks.2 (.inl e.symm))
 obtain ⟨g,ck,ek,hgl,hck1,hck2,hcells⟩:∃ g c,x.kv = .slice (some ⟨g,0,none⟩) x.kids.length c ∧ g < w.heap.size ∧ x.kids.length ≤ c ∧ c ≤ maxLen ∧ ∀ j k,x.kids[j]? = some k → w.cell? ⟨g,j,none⟩ = some (pV k):=by
  rcases h.ks.cells with ⟨-,e0⟩ | hh
  ·rw [e0] at hml;simp at hml
  ·exact hh
 unfold maxLen at hck2
 have hgz:g ≠ zb:=fun e=>hne (mem_blks.2 (.inr (.inr (by rw [ek,e];rfl))))
 have hgq:g ≠ q:=fun e=>hqn (mem_blks.2 (.inr (.inr (by rw [ek,e];rfl))))
 have hgx:g ≠ x.b:=fun e=>(List.nodup_cons.1 hnd).1 (List.mem_append_right _ (Option.mem_toList.2 (by rw [ek,e];rfl)))
 have hT2:Turned [zb] w (w.setCell ⟨zb,6,none⟩ (pV x.b)):=(Turned.refl _ _).setCell (by simp) _
 have hq2:(w.setCell ⟨zb,6,none⟩ (pV x.b)).heap[q]? = some (bO qid qkind qmode qdata qnv qkv qup):=(blk_other hqz _ _).trans hqb
 have fq:(w.setCell ⟨zb,6,none⟩ (pV x.b)).frozen? ⟨q,6,none⟩ = false:=blk_free hq2 6
 have cq:(w.setCell ⟨zb,6,none⟩ (pV x.b)).cell? ⟨q,6,none⟩ = some qup:=by rw [blk_cell hq2];rfl
 have hz2:(w.setCell ⟨zb,6,none⟩ (pV x.b)).heap[zb]? = some (bO zid zkind zmode zdata znv zkv (pV x.b)):=blk_set hz 6 _
 have HX2:=Lib.hid (And.intro hT2 (And.intro hq2 hz2))
 have hmi:((kidIx x.names n:Nat):Int) < (x.kids.length:Int):=by omega
 clear hT2 hq2 hz2
 go_enter Tryz.func61,Tryz.ntmps61
 go_upto_region 4 with (go_at_call 64;refine HKA.out.mono ?_;rintro e' w2 ⟨rfl,rfl⟩)
 obtain ⟨hT2,hq2,hz2⟩:=HX2.out
 have hT3:Turned [zb,q] w ((w.setCell ⟨zb,6,none⟩ (pV x.b)).setCell ⟨q,6,none⟩ (.pointer none)):=(hT2.mono (by simp)).setCell (by simp) _
 have hz3:((w.setCell ⟨zb,6,none⟩ (pV x.b)).setCell ⟨q,6,none⟩ (.pointer none)).heap[zb]? = some (bO zid zkind zmode zdata znv zkv (pV x.b)):=(blk_other (Ne.symm hqz) _ _).trans hz2
 generalize (w.setCell ⟨zb,6,none⟩ (pV x.b)).setCell ⟨q,6,none⟩ (.pointer none) = w3 at *
 have hks3:KRow w3 base x.kv x.kids:=h.ks.turned hT3 (fun y hy hm=>by
  have:y ∈ blks x:=mem_blks.2 (.inr (.inr hy))
  rcases List.mem_cons.1 hm with e | e
  ·exact hne (e ▸ this)
  ·exact hqn ((List.mem_singleton.1 e) ▸ this))
 have hns3:SRow w3 base x.nv x.names:=h.ns.turned hT3 (fun y hy hm=>by
  have:y ∈ blks x:=mem_blks.2 (.inr (.inl hy))
  rcases List.mem_cons.1 hm with e | e
  ·exact hne (e ▸ this)
  ·exact hqn ((List.mem_singleton.1 e) ▸ this))
 have hb3:w3.heap[x.b]? = some (bO id x.kind x.mode x.data x.nv x.kv up):=hT3.kept hb (by simp [hxz,hxq])
 have d5:w3.cell? ⟨x.b,5,none⟩ = some (.slice (some ⟨g,0,none⟩) x.kids.length ck):=by rw [blk_cell hb3,ek];rfl
 rw [ek] at hks3
 have dg:w3.cell? ⟨g,kidIx x.names n,none⟩ = some (pV q):=by
  rcases hks3.cells with ⟨e,-⟩ | ⟨g',c',e,-,-,-,hh⟩
  ·cases e
  ·simp only [Value.slice.injEq,Option.some.injEq,Addr.mk.injEq] at e
   obtain ⟨⟨rfl,-,-⟩,-,-⟩:=e
   exact hh _ _ hq
 have fg:w3.frozen? ⟨g,kidIx x.names n,none⟩ = false:=by
  obtain ⟨hl,⟨e1,h0⟩ | ⟨g',c',cur,e1,h2,h3,-⟩⟩:=hks3
  ·cases e1
  ·simp only [Value.slice.injEq,Option.some.injEq,Addr.mk.injEq] at e1
   obtain ⟨⟨rfl,-,-⟩,-,-⟩:=e1
   exact blk_free h3 _
 have HF:Hid (NodeAt (w3.setCell ⟨g,kidIx x.names n,none⟩ (pV zb)) base { x with kids:=x.kids.set (kidIx x.names n) zb } ∧ (∃ up,(w3.setCell ⟨g,kidIx x.names n,none⟩ (pV zb)).heap[zb]? = some (bO zid zkind zmode zdata znv zkv up)) ∧ Turned (zb :: q :: blks x) w (w3.setCell ⟨g,kidIx x.names n,none⟩ (pV zb))):=by
  refine ⟨⟨⟨id,up,(blk_other (Ne.symm hgx) _ _).trans hb3⟩,h.own,hns3.turned (S := [g]) ((Turned.refl _ _).setCell (by simp) _) (fun y hy hm => ?_),?_⟩,⟨_,(blk_other (Ne.symm hgz) _ _).trans hz3⟩,(hT3.mono (fun y hy => ?_)).setCell ?_ _⟩
  ·have e:=List.mem_singleton.1 hm
   have:=(List.nodup_append.1 (List.nodup_cons.1 hnd).2).2.2 y (Option.mem_toList.2 hy) g (Option.mem_toList.2 (by rw [ek];rfl))
   exact this e
  ·show KRow _ base x.kv _
   rw [ek]
   exact hks3.set _ _ hml
  ·rcases List.mem_cons.1 hy with e | e
   ·rw [e];exact List.mem_cons_self
   ·rw [List.mem_singleton.1 e];exact List.mem_cons_of_mem _ List.mem_cons_self
  ·exact List.mem_cons_of_mem _ (List.mem_cons_of_mem _ (mem_blks.2 (.inr (.inr (by rw [ek];rfl)))))
 clear hks3 hns3 hb3 hz3 hT3 hz2 hq2 hT2 HX2 HKA
 go_wp2_with fail
 refine bodyPost_ret (results_none rfl _ _ _) rfl ?_
 exact ⟨rfl,HF.out⟩
end Go.Proofs.YtifhnpkapgaboaaGreat.doc
