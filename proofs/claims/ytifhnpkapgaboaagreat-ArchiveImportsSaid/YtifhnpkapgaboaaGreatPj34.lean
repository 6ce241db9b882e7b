/-
  Proved: the document's tree in memory: New; a node's mode is set. Conditions: as each theorem says.
  Proved: an entry applied to the document's tree (Put) is the program's field turned. Conditions: as each theorem says.
-/
import Derived.Test.YtifhnpkapgaboaaGreatPj33
import Derived.Test.YtifhnpkapgaboaaGreatPj8
set_option linter.unusedVariables false
set_option linter.unusedSimpArgs false
namespace Go.Proofs.YtifhnpkapgaboaaGreat.doc
open Go Go.RowKit
open heap
open fld
open arch (Ent e0)
open path (sv str_size SRow joinL)
set_option maxRecDepth 100000
structure Same (f:BN → BN):Prop where
 ps:∀ x,(f x).ps = x.ps
 b:∀ x,(f x).b = x.b
 kind:∀ x,(f x).kind = x.kind
 names:∀ x,(f x).names = x.names
 kids:∀ x,(f x).kids = x.kids
theorem Same.cond {f:BN → BN} (h:Same f) (P:List Nm):Same fun x=>if x.ps = P then f x else x:=
 ⟨fun x=>by split;exact h.ps x;rfl,fun x=>by split;exact h.b x;rfl,fun x=>by split;exact h.kind x;rfl,fun x=>by split;exact h.names x;rfl,fun x=>by split;exact h.kids x;rfl⟩
theorem WF.map {M:DM} (h:WF M) {f:BN → BN} (hf:Same f):WF (M.map f):=by
 refine ⟨?_,?_,?_,?_,?_,?_⟩
 ·have:(M.map f).map (·.ps) = M.map (·.ps):=by
   rw [List.map_map]
   exact List.map_congr_left fun x _=>hf.ps x
  rw [this];exact h.keys
 ·obtain ⟨r,rest,hM,hr,hk⟩:=h.root
  exact ⟨f r,rest.map f,by rw [hM];rfl,by rw [hf.ps];exact hr,by rw [hf.kind];exact hk⟩
 ·intro x hx
  obtain ⟨x',hx',rfl⟩:=List.mem_map.1 hx
  rw [hf.names];exact h.srt x' hx'
 ·intro x hx
  obtain ⟨x',hx',rfl⟩:=List.mem_map.1 hx
  rw [hf.names,hf.kids];exact h.len x' hx'
 ·intro x hx i n c h1 h2
  obtain ⟨x',hx',rfl⟩:=List.mem_map.1 hx
  rw [hf.names] at h1
  rw [hf.kids] at h2
  obtain ⟨y,hy,h3,h4⟩:=h.down x' hx' i n c h1 h2
  exact ⟨f y,List.mem_map.2 ⟨y,hy,rfl⟩,by rw [hf.ps,hf.ps];exact h3,by rw [hf.b];exact h4⟩
 ·intro y hy qs n h1
  obtain ⟨y',hy',rfl⟩:=List.mem_map.1 hy
  rw [hf.ps] at h1
  obtain ⟨x,hx,h2,h3⟩:=h.up y' hy' qs n h1
  exact ⟨f x,List.mem_map.2 ⟨x,hx,rfl⟩,by rw [hf.ps];exact h2,by rw [hf.names];exact h3⟩
theorem Rel.map {F F':Fld} {M:DM} (h:Rel F M) {f:BN → BN} (hf:Same f) (h1:kd F'.nodes = kd F.nodes) (h2:F'.kids = F.kids):Rel F' (M.map f):=by
 have hk:∀ p,kidOf F' p = kidOf F p:=fun p=>by unfold kidOf;rw [h2]
 refine ⟨h.wf.map hf,?_,?_,?_,?_⟩
 ·intro x hx
  obtain ⟨x',hx',rfl⟩:=List.mem_map.1 hx
  rw [hf.ps];exact h.good x' hx'
 ·rw [h1,h.eq,← List.map_tail,List.map_map]
  refine List.map_congr_left fun x _ => ?_
  show _ = (joinL (f x).ps,(f x).kind)
  rw [hf.ps,hf.kind]
 ·intro x hx
  obtain ⟨x',hx',rfl⟩:=List.mem_map.1 hx
  rw [hf.ps,hf.names,hk];exact h.kid x' hx'
 ·intro p hp
  rw [hk]
  exact h.no p fun x hx=>by
   have:=hp (f x) (List.mem_map.2 ⟨x,hx,rfl⟩)
   rwa [hf.ps] at this
def modeF (P:List Nm) (m:Int) (x:BN):BN:=if x.ps = P then { x with mode:=m } else x
theorem modeF_same (P:List Nm) (m:Int):Same (modeF P m):=Same.cond (f:=fun x => { x with mode:=m }) ⟨fun _=>rfl,fun _=>rfl,fun _=>rfl,fun _=>rfl,fun _=>rfl⟩ P
theorem TreeP.mode {w:World} {base t:Nat} {M:DM} (h:TreeP w base t M) {y:BN} (hy:y ∈ M) (m:Int) :
  TreeP (w.setCell ⟨y.b,2,none⟩ (.int .i64 m)) base t (M.map (modeF y.ps m)) ∧ Turned (allB t M) w (w.setCell ⟨y.b,2,none⟩ (.int .i64 m)) ∧ ∀ g ∈ allB t (M.map (modeF y.ps m)),g ∈ allB t M ∨ w.heap.size ≤ g:=by
 have hT:Turned [y.b] w (w.setCell ⟨y.b,2,none⟩ (.int .i64 m)):=(Turned.refl _ _).setCell (by simp) _
 have hs:=modeF_same y.ps m
 have hnv:∀ x,(modeF y.ps m x).nv = x.nv:=fun x=>by unfold modeF;split <;> rfl
 have hkv:∀ x,(modeF y.ps m x).kv = x.kv:=fun x=>by unfold modeF;split <;> rfl
 have hbl:∀ x,blks (modeF y.ps m x) = blks x:=fun x=>by unfold blks;rw [hs.b,hnv,hkv]
 have hyt:y.b ≠ t:=fun e=>(h.one y hy).2 (mem_blks.2 (.inl e.symm))
 have hall:∀ g ∈ allB t (M.map (modeF y.ps m)),g ∈ allB t M:=fun g hg=>by
  rcases mem_allB.1 hg with e | ⟨x,hx,hgx⟩
  ·exact mem_allB.2 (.inl e)
  ·obtain ⟨x',hx',rfl⟩:=List.mem_map.1 hx
   rw [hbl] at hgx
   exact mem_allB.2 (.inr ⟨x',hx',hgx⟩)
 refine ⟨?_,hT.mono fun k hk => ?_,fun g hg=>.inl (hall g hg)⟩
 ·refine h.edit hT (h.wf.map hs) ?_ ?_ ?_
  ·obtain ⟨r,rest,c,f,l,i,mm,nx,bs,hM,hb⟩:=h.tb
   exact ⟨modeF y.ps m r,rest.map (modeF y.ps m),c,f,l,i,mm,nx,bs,by rw [hM];rfl,by rw [hs.b];exact hT.kept hb (by simpa using Ne.symm hyt)⟩
  ·intro x hx
   obtain ⟨x',hx',rfl⟩:=List.mem_map.1 hx
   by_cases e:x'.ps = y.ps
   ·have exy:=h.wf.one hx' hy e
    subst exy
    have e2:modeF x'.ps m x' = { x' with mode:=m }:=if_pos rfl
    rw [e2]
    obtain ⟨id,up,hb⟩:=(h.node x' hx').blk
    have hnd:=(h.one x' hx').1
    have hns:=(h.node x' hx').ns
    have hks:=(h.node x' hx').ks
    refine .inr ⟨⟨⟨id,up,?_⟩,(h.node x' hx').own,hns.turned hT ?_,hks.turned hT ?_⟩,hnd,fun g hg=>.inr ⟨x',hx',rfl,hg⟩⟩
    ·exact blk_set hb 2 _
    ·intro g hg hm
     rw [List.mem_singleton] at hm
     unfold blks at hnd
     rw [List.nodup_cons] at hnd
     exact hnd.1 (by rw [← hm];exact List.mem_append_left _ (Option.mem_toList.2 hg))
    ·intro g hg hm
     rw [List.mem_singleton] at hm
     unfold blks at hnd
     rw [List.nodup_cons] at hnd
     exact hnd.1 (by rw [← hm];exact List.mem_append_right _ (Option.mem_toList.2 hg))
   ·have e2:modeF y.ps m x' = x':=if_neg e
    rw [e2]
    refine .inl ⟨hx',fun g hg hm => ?_⟩
    rw [List.mem_singleton] at hm
    exact h.two x' hx' y hy e g hg (hm ▸ mem_blks.2 (.inl rfl))
  ·intro x hx x2 hx2 hne g hg _
   obtain ⟨x',hx',rfl⟩:=List.mem_map.1 hx
   rw [hbl] at hg
   exact ((h.node x' hx').lt hg).2
 ·rw [List.mem_singleton.1 hk]
  exact mem_allB.2 (.inr ⟨y,hy,mem_blks.2 (.inl rfl)⟩)
def rootN (b:Nat):BN:=⟨[],b,1,493,[],.slice none 0 0,.slice none 0 0,[],[]⟩
theorem WF.new (b:Nat):WF [rootN b]:=by
 refine ⟨by simp,⟨_,[],rfl,rfl,rfl⟩,?_,?_,?_,?_⟩
 ·intro x hx;rw [List.mem_singleton.1 hx];exact List.Pairwise.nil
 ·intro x hx;rw [List.mem_singleton.1 hx];rfl
 ·intro x hx i n c h1 _;rw [List.mem_singleton.1 hx] at h1;simp [rootN] at h1
 ·intro y hy qs n h1
  rw [List.mem_singleton.1 hy] at h1
  exact absurd h1.symm (by simp [rootN])
set_option maxHeartbeats 1000000 in
theorem New_any (w:World):Calls Tryz.prog 34 #[] w fun e w'=>∃ t b,e = .returned (pV t) ∧ TreeP w' w.heap.size t [rootN b] ∧ Below w.heap.size w w':=by
 go_enter Tryz.func34,Tryz.ntmps34
 go_wp2_with fail
 go_ret
 have hb0:=blk_new w (bO 0 1 493 [] (.slice none 0 0) (.slice none 0 0) (.pointer none))
 have hB1:Below w.heap.size w (w.alloc (bO 0 1 493 [] (.slice none 0 0) (.slice none 0 0) (.pointer none))):=(Below.refl _ _).alloc (Nat.le_refl _) _
 obtain ⟨w1,hw1⟩:∃ w1,w1 = w.alloc (bO 0 1 493 [] (.slice none 0 0) (.slice none 0 0) (.pointer none)):=⟨_,rfl⟩
 have hsz:w1.heap.size = w.heap.size + 1:=by rw [hw1];simp
 rw [← hw1] at hb0 hB1
 obtain ⟨w2,hw2⟩:∃ w2,w2 = w1.alloc (.cells #[pV w.heap.size,pV w.heap.size,.slice none 0 0,.int .i64 1024,.int .i64 512,.int .i64 128,.int .i64 0,.bool false] 78 (0,0)):=⟨_,rfl⟩
 have ht:=blk_new w1 (.cells #[pV w.heap.size,pV w.heap.size,.slice none 0 0,.int .i64 1024,.int .i64 512,.int .i64 128,.int .i64 0,.bool false] 78 (0,0))
 rw [← hw2] at ht
 have hB2:Below w1.heap.size w1 w2:=by rw [hw2];exact (Below.refl _ _).alloc (Nat.le_refl _) _
 have hb2:=(hB2.block w.heap.size (by omega)).trans hb0
 refine ⟨w1.heap.size,w.heap.size,by rw [hsz];rfl,?_,?_⟩
 ·have:TreeP w2 w.heap.size w1.heap.size [rootN w.heap.size]:=by
   refine ⟨⟨_,[],_,_,_,_,_,_,_,rfl,ht⟩,by omega,WF.new _,?_,?_,?_⟩
   ·intro x hx
    rw [List.mem_singleton.1 hx]
    exact ⟨⟨_,_,hb2⟩,Nat.le_refl _,World.ownsRow_nil _ _ _ _,World.ownsRow_nil _ _ _ _⟩
   ·intro x hx
    rw [List.mem_singleton.1 hx]
    refine ⟨by simp [blks,rootN,Value.ownBlock],?_⟩
    simp [blks,rootN,Value.ownBlock]
    omega
   ·intro x hx y hy hne
    rw [List.mem_singleton.1 hx,List.mem_singleton.1 hy] at hne
    exact absurd rfl hne
  rw [hw2,hw1] at this
  rw [hw1]
  exact this
 ·have:=hB1.trans (hB2.mono hB1.size)
  rw [hw2,hw1] at this
  exact this
end Go.Proofs.YtifhnpkapgaboaaGreat.doc
namespace Go.Proofs.YtifhnpkapgaboaaGreat.doc
open Go Go.RowKit
open heap
open fld
open arch (Ent e0 entV entO)
open path (sv str_size SRow joinL)
set_option maxRecDepth 100000
def PutO (F:Fld) (M:DM) (w:World) (base t:Nat) (e:Ent) (r:Ending) (w':World):Prop:=
 (applyF F e = none ∧ r = .returned (.bool false) ∧ Below w.heap.size w w') ∨ (∃ F' M',applyF F e = some F' ∧ Rel F' M' ∧ r = .returned (.bool true) ∧ TreeP w' base t M' ∧ Turned (allB t M) w w' ∧ (∀ g ∈ allB t M',g ∈ allB t M ∨ w.heap.size ≤ g) ∧ M'.length ≤ M.length + 1)
def e2 (e:Ent):Ent:=if e.kind = 5 then { e with kind:=1 } else e
theorem len_edit (M:DM) (P ps:List Nm) (f:BN → BN):(modM (cutM M P) ps f).length ≤ M.length:=by
 unfold modM cutM
 rw [List.length_map]
 exact List.length_filter_le _ _
theorem apply_put {F:Fld} {M:DM} (h:Rel F M) {qs:List Nm} {n:Nm} (hg:Good (qs ++ [n])) {e:Ent} (hep:e.path = joinL (qs ++ [n])) {u:BN} (hu:findM M qs = some u) (huk:u.kind = 1) (hk:e.kind ≠ 4) (hm:∀ y,findM M (qs ++ [n]) = some y → ¬ (e.kind = 1 ∧ y.kind = 1)) :
  applyF F e = some (putF (if n ∈ u.names then goneF F (joinL (qs ++ [n])) else F) (e2 e)):=by
 obtain ⟨huM,hup⟩:=findM_some hu
 rcases h.wf.kid huM n with ⟨hn,y,hy,-⟩ | ⟨hn,hy⟩
 ·rw [hup] at hy
  rw [if_pos hn,← hep,h.apply_old hg hep hu huk hy hk (hm y hy)];rfl
 ·rw [hup] at hy
  rw [if_neg hn,h.apply_new hg hep hu huk hy hk];rfl
theorem put_done {F:Fld} {M:DM} {w w2:World} {base t:Nat} (h:Rel F M) (hM:M.length ≤ 1000000000) {qs:List Nm} {n:Nm} (hg:Good (qs ++ [n])) {e:Ent} (hep:e.path = joinL (qs ++ [n])) {u:BN} (hu:findM M qs = some u) (huk:u.kind = 1) (hk:e.kind ≠ 4) (hm:∀ y,findM M (qs ++ [n]) = some y → ¬ (e.kind = 1 ∧ y.kind = 1))
  {z:BN} (hz:NewN u n z) (hzk:z.kind = (e2 e).kind) {r:Ending} (hp:Put2 w base t M u n z r w2):PutO F M w base t e (.returned (.bool true)) w2:=by
 obtain ⟨huM,hup⟩:=findM_some hu
 obtain ⟨-,f,hf,h1,h2,h3⟩:=hp
 subst hup
 refine .inr ⟨_,_,apply_put h hg hep hu huk hk hm,h.putF huM hg hf ⟨hz.ps,hz.ns,hz.ks⟩ (e2 e) (by unfold e2;split <;> exact hep) hzk.symm hM,rfl,h1,h2,h3,?_⟩
 rw [List.length_append]
 have:=len_edit M (u.ps ++ [n]) u.ps f
 simp
 exact this
set_option maxHeartbeats 2000000 in
theorem Put_any {F:Fld} {M:DM} {w:World} {base t:Nat} (hR:Rel F M) (h:TreeP w base t M) (hM:M.length ≤ 1000000000) (e:Ent) (qs:List Nm) (n:Nm) (hg:Good (qs ++ [n])) (hep:e.path = joinL (qs ++ [n])) (hl:e.path.length ≤ 2000000) :
  Calls Tryz.prog 35 #[pV t,entV e] w fun r w'=>PutO F M w base t e r w':=by
 have hl':=hl
 rw [hep] at hl'
 have HS:Hid (∀ W:World,Calls Tryz.prog 55 #[sv e.path] W fun r w'=>r = .returned (.tuple #[sv (joinL qs),sv n]) ∧ Below W.heap.size W w'):=fun W=>by rw [hep];exact Split_join qs n hg W hl'
 have HF1:Hid (∀ W:World,Below w.heap.size w W → Calls Tryz.prog 25 #[pV t,sv (joinL qs)] W fun r w'=>r = .returned (fV (findM M qs)) ∧ Below W.heap.size W w'):=fun W k=>Find_any qs hg.left W (h.below k) hM (Nat.le_trans (join_len _ _) hl')
 have HF2:Hid (∀ W:World,Below w.heap.size w W → Calls Tryz.prog 25 #[pV t,sv e.path] W fun r w'=>r = .returned (fV (findM M (qs ++ [n]))) ∧ Below W.heap.size W w'):=fun W k=>by rw [hep];exact Find_any (qs ++ [n]) hg W (h.below k) hM hl'
 have HND:Hid (∀ W:World,Below w.heap.size w W → ∀ x ∈ M,W.cell? ⟨x.b,1,none⟩ = some (.int .i64 x.kind) ∧ W.frozen? ⟨x.b,2,none⟩ = false ∧ ∃ v,W.cell? ⟨x.b,2,none⟩ = some v):=fun W k x hx=>by
  obtain ⟨id,up,hb⟩:=((h.below k).node x hx).blk
  exact ⟨by rw [blk_cell hb];rfl,blk_free hb 2,_,by rw [blk_cell hb];rfl⟩
 have HB0:Hid (Below w.heap.size w (w.alloc (entO e))):=(Below.refl _ _).alloc (Nat.le_refl _) _
 have hx0:=blk_new w (entO e)
 have HX:Hid (∀ W:World,Below (w.heap.size + 1) (w.alloc (entO e)) W → Below w.heap.size w W ∧ W.heap[w.heap.size]? = some (entO e) ∧ W.cell? ⟨w.heap.size,0,none⟩ = some (sv e.path) ∧ W.cell? ⟨w.heap.size,1,none⟩ = some (.int .i64 e.kind) ∧ W.cell? ⟨w.heap.size,2,none⟩ = some (.int .i64 e.mode) ∧ W.cell? ⟨w.heap.size,3,none⟩ = some (sv e.data)):=fun W k=>by
  have hb:=(k.block w.heap.size (by omega)).trans hx0
  exact ⟨HB0.out.trans (k.mono (by omega)),hb,by rw [blk_cell hb];rfl,by rw [blk_cell hb];rfl,by rw [blk_cell hb];rfl,by rw [blk_cell hb];rfl⟩
 have c0:(w.alloc (entO e)).cell? ⟨w.heap.size,0,none⟩ = some (sv e.path):=by rw [blk_cell hx0];rfl
 have HT:=Lib.hid h
 have HG:=Lib.hid hg
 have HEP:=Lib.hid hep
 have HRR:=Lib.hid hR
 have HM:=Lib.hid hM
 have HL:=Lib.hid hl'
 clear h hM hg hep hl hl' hx0 hR
 cases hu:findM M qs with
 | none =>
  have HO:Hid (applyF F e = none):=HRR.out.apply_up qs n HG.out e HEP.out (fun ⟨u,h1,_⟩=>by rw [hu] at h1;cases h1)
  rw [hu] at HF1
  simp only [fV] at HF1
  clear hu HF2
  generalize joinL qs = us at *
  go_enter Tryz.func35,Tryz.ntmps35
  go_wp2_with fail
  (with_reducible refine (HS.out _).mono ?_);rintro r w1 ⟨rfl,hb1⟩
  have HC1:Hid (Below (w.heap.size + 1) (w.alloc (entO e)) w1):=hb1.mono (by simp)
  have HB1:Hid (Below w.heap.size w w1):=(HX.out w1 HC1.out).1
  clear hb1
  go_wp2_with fail
  (with_reducible refine (HF1.out _ HB1.out).mono ?_);rintro r w2 ⟨rfl,hb2⟩
  have HC2:Hid (Below (w.heap.size + 1) (w.alloc (entO e)) w2):=HC1.out.trans (hb2.mono (by have:=HC1.out.size;simp at this;omega))
  have HB2:Hid (Below w.heap.size w w2):=(HX.out w2 HC2.out).1
  clear hb2
  go_wp2_with fail
  go_ret
  exact .inl ⟨HO.out,rfl,HB2.out⟩
 | some u =>
  obtain ⟨huM,hup⟩:=findM_some hu
  have HU:=Lib.hid hu
  rw [hu] at HF1
  simp only [fV] at HF1
  by_cases huk:u.kind = 1
  ·have hu1:((u.kind:Int) != 1) = false:=by rw [huk];rfl
   by_cases hk4:e.kind = 4
   ·have d4:(e.kind == 4) = true:=by rw [beq_iff_eq];exact hk4
    cases hy:findM M (qs ++ [n]) with
    | none =>
     have HO:Hid (applyF F e = none):=HRR.out.apply_none qs n HG.out e HEP.out hk4 hy
     rw [hy] at HF2
     simp only [fV] at HF2
     clear hy hu huk hk4
     generalize joinL qs = us at *
     go_enter Tryz.func35,Tryz.ntmps35
     go_wp2_with fail
     (with_reducible refine (HS.out _).mono ?_);rintro r w1 ⟨rfl,hb1⟩
     have HC1:Hid (Below (w.heap.size + 1) (w.alloc (entO e)) w1):=hb1.mono (by simp)
     have HB1:Hid (Below w.heap.size w w1):=(HX.out w1 HC1.out).1
     clear hb1
     go_wp2_with fail
     (with_reducible refine (HF1.out _ HB1.out).mono ?_);rintro r w2 ⟨rfl,hb2⟩
     have HC2:Hid (Below (w.heap.size + 1) (w.alloc (entO e)) w2):=HC1.out.trans (hb2.mono (by have:=HC1.out.size;simp at this;omega))
     have HB2:Hid (Below w.heap.size w w2):=(HX.out w2 HC2.out).1
     clear hb2
     have cu:=(HND.out _ HB2.out u huM).1
     obtain ⟨-,-,x0,-⟩:=HX.out w2 HC2.out
     go_wp2_with fail
     (with_reducible refine (HF2.out _ HB2.out).mono ?_);rintro r w3 ⟨rfl,hb3⟩
     have HC3:Hid (Below (w.heap.size + 1) (w.alloc (entO e)) w3):=HC2.out.trans (hb3.mono (by have:=HC2.out.size;simp at this;omega))
     have HB3:Hid (Below w.heap.size w w3):=(HX.out w3 HC3.out).1
     clear hb3 cu x0 c0
     obtain ⟨-,-,c0,c1,c2,c3⟩:=HX.out w3 HC3.out
     go_wp2_with fail
     go_ret
     exact .inl ⟨HO.out,rfl,HB3.out⟩
    | some y =>
     have hn:n ∈ u.names:=by
      rcases HT.out.wf.kid huM n with ⟨h1,-⟩ | ⟨-,h2⟩
      ·exact h1
      ·rw [hup,hy] at h2;cases h2
     have HO:Hid (applyF F e = some (goneF F e.path)):=HRR.out.apply_gone HG.out HEP.out hu huk hy hk4
     have HTK:Hid (∀ W:World,Below w.heap.size w W → Calls Tryz.prog 74 #[pV t,sv e.path] W fun r w'=>r = .returned (.tuple #[]) ∧ PutO F M w base t e (.returned (.bool true)) w'):=fun W k=>by
      have hg:=HG.out
      have hl:=HL.out
      have hO:=HO.out
      have hpe:=HEP.out
      rw [← hup] at hg hl hpe
      rw [hpe]
      refine (Take_any (HT.out.below k) HM.out huM hn hg hl).mono ?_
      rintro r w' ⟨hr,nv,kv,h1,h2,h3⟩
      refine ⟨hr,.inr ⟨_,_,hO,?_,rfl,h1,(Turned.of_below k).trans h2,fun g hgg => ?_,Nat.le_trans (len_edit _ _ _ _) (by omega)⟩⟩
      ·rw [hpe]
       exact HRR.out.gone huM hn hg _ (fun _=>⟨rfl,rfl,rfl⟩) rfl rfl HM.out
      ·rcases h3 g hgg with e1 | e1
       ·exact .inl e1
       ·exact .inr (Nat.le_trans k.size e1)
     rw [hy] at HF2
     simp only [fV] at HF2
     clear hy hu huk hk4 hn HO
     generalize joinL qs = us at *
     go_enter Tryz.func35,Tryz.ntmps35
     go_wp2_with fail
     (with_reducible refine (HS.out _).mono ?_);rintro r w1 ⟨rfl,hb1⟩
     have HC1:Hid (Below (w.heap.size + 1) (w.alloc (entO e)) w1):=hb1.mono (by simp)
     have HB1:Hid (Below w.heap.size w w1):=(HX.out w1 HC1.out).1
     clear hb1
     go_wp2_with fail
     (with_reducible refine (HF1.out _ HB1.out).mono ?_);rintro r w2 ⟨rfl,hb2⟩
     have HC2:Hid (Below (w.heap.size + 1) (w.alloc (entO e)) w2):=HC1.out.trans (hb2.mono (by have:=HC1.out.size;simp at this;omega))
     have HB2:Hid (Below w.heap.size w w2):=(HX.out w2 HC2.out).1
     clear hb2
     have cu:=(HND.out _ HB2.out u huM).1
     obtain ⟨-,-,x0,-⟩:=HX.out w2 HC2.out
     go_wp2_with fail
     (with_reducible refine (HF2.out _ HB2.out).mono ?_);rintro r w3 ⟨rfl,hb3⟩
     have HC3:Hid (Below (w.heap.size + 1) (w.alloc (entO e)) w3):=HC2.out.trans (hb3.mono (by have:=HC2.out.size;simp at this;omega))
     have HB3:Hid (Below w.heap.size w w3):=(HX.out w3 HC3.out).1
     clear hb3 cu x0 c0
     obtain ⟨-,-,c0,c1,c2,c3⟩:=HX.out w3 HC3.out
     have HTT:=Lib.hid (HTK.out w3 HB3.out)
     go_wp2_with fail
     (with_reducible refine HTT.out.mono ?_);rintro r w4 ⟨rfl,HQ⟩
     have HQ:=Lib.hid HQ
     go_wp2_with fail
     go_ret
     exact HQ.out
   ·have d4:(e.kind == 4) = false:=by rw [beq_eq_false_iff_ne];exact hk4
    have HUK:=Lib.hid huk
    have HK4:=Lib.hid hk4
    have HPL:Hid (∀ (W:World) (kd m:Int) (d:Nm),Below (w.heap.size + 1) (w.alloc (entO e)) W → Calls Tryz.prog 75 #[pV t,sv e.path,pV W.heap.size] (W.alloc (.cells #[.int .i64 0,.int .i64 kd,.int .i64 m,sv d,.slice none 0 0,.slice none 0 0,.pointer none] 62 (0,0))) fun r w'=>Put2 w base t M u n ⟨qs ++ [n],W.heap.size,kd,m,d,.slice none 0 0,.slice none 0 0,[],[]⟩ r w'):=fun W kd m d k=>by
     have hW:=(HX.out W k).1
     have hb0:=blk_new W (bO 0 kd m d (.slice none 0 0) (.slice none 0 0) (.pointer none))
     have hbl:Below w.heap.size w (W.alloc (bO 0 kd m d (.slice none 0 0) (.slice none 0 0) (.pointer none))):=hW.trans ((Below.refl _ _).alloc hW.size _)
     have hg:=HG.out
     have hl:=HL.out
     rw [HEP.out]
     rw [← hup] at hg hl ⊢
     exact Place_any HT.out hbl HM.out huM (z:=⟨u.ps ++ [n],W.heap.size,kd,m,d,.slice none 0 0,.slice none 0 0,[],[]⟩) ⟨rfl,rfl,rfl,rfl,rfl⟩ hW.size hg hl ⟨0,.pointer none,hb0⟩
    have HZN:Hid (∀ (b:Nat) (kd m:Int) (d:Nm),NewN u n ⟨qs ++ [n],b,kd,m,d,.slice none 0 0,.slice none 0 0,[],[]⟩):=fun b kd m d=>⟨by rw [hup],rfl,rfl,rfl,rfl⟩
    by_cases hk1:e.kind = 1
    ·have d1:(e.kind == 1) = true:=by rw [beq_iff_eq];exact hk1
     have HK1:=Lib.hid hk1
     cases hy:findM M (qs ++ [n]) with
     | none =>
      have HMM:Hid (∀ y,findM M (qs ++ [n]) = some y → ¬ (e.kind = 1 ∧ y.kind = 1)):=fun y h1=>by rw [hy] at h1;cases h1
      rw [hy] at HF2
      simp only [fV] at HF2
      clear hy hu huk hk4 hk1
      generalize joinL qs = us at *
      go_enter Tryz.func35,Tryz.ntmps35
      go_wp2_with fail
      (with_reducible refine (HS.out _).mono ?_);rintro r w1 ⟨rfl,hb1⟩
      have HC1:Hid (Below (w.heap.size + 1) (w.alloc (entO e)) w1):=hb1.mono (by simp)
      have HB1:Hid (Below w.heap.size w w1):=(HX.out w1 HC1.out).1
      clear hb1
      go_wp2_with fail
      (with_reducible refine (HF1.out _ HB1.out).mono ?_);rintro r w2 ⟨rfl,hb2⟩
      have HC2:Hid (Below (w.heap.size + 1) (w.alloc (entO e)) w2):=HC1.out.trans (hb2.mono (by have:=HC1.out.size;simp at this;omega))
      have HB2:Hid (Below w.heap.size w w2):=(HX.out w2 HC2.out).1
      clear hb2
      have cu:=(HND.out _ HB2.out u huM).1
      obtain ⟨-,-,x0,-⟩:=HX.out w2 HC2.out
      go_wp2_with fail
      (with_reducible refine (HF2.out _ HB2.out).mono ?_);rintro r w3 ⟨rfl,hb3⟩
      have HC3:Hid (Below (w.heap.size + 1) (w.alloc (entO e)) w3):=HC2.out.trans (hb3.mono (by have:=HC2.out.size;simp at this;omega))
      have HB3:Hid (Below w.heap.size w w3):=(HX.out w3 HC3.out).1
      clear hb3 cu x0 c0
      obtain ⟨-,-,c0,c1,c2,c3⟩:=HX.out w3 HC3.out
      have HPP:=Lib.hid (HPL.out w3 1 e.mode [] HC3.out)
      go_wp2_with fail
      (with_reducible refine HPP.out.mono ?_);rintro r w4 HQ
      have HQ:=Lib.hid HQ
      obtain rfl:=HQ.out.1
      go_wp2_with fail
      go_ret
      exact put_done HRR.out HM.out HG.out HEP.out HU.out HUK.out HK4.out HMM.out (HZN.out _ _ _ _) (by unfold e2;rw [if_neg (by rw [HK1.out];decide)];exact HK1.out.symm) HQ.out
     | some y =>
      obtain ⟨hyM,hyp⟩:=findM_some hy
      by_cases hyk:y.kind = 1
      ·have y1:(y.kind == 1) = true:=by rw [beq_iff_eq];exact hyk
       have HMO:Hid (∃ F',applyF F e = some F' ∧ kd F'.nodes = kd F.nodes ∧ F'.kids = F.kids):=HRR.out.apply_mode HG.out HEP.out hu huk hy hk1 hyk
       rw [hy] at HF2
       simp only [fV] at HF2
       clear hy hu huk hk4 hk1 hyk HPL HZN
       generalize joinL qs = us at *
       go_enter Tryz.func35,Tryz.ntmps35
       go_wp2_with fail
       (with_reducible refine (HS.out _).mono ?_);rintro r w1 ⟨rfl,hb1⟩
       have HC1:Hid (Below (w.heap.size + 1) (w.alloc (entO e)) w1):=hb1.mono (by simp)
       have HB1:Hid (Below w.heap.size w w1):=(HX.out w1 HC1.out).1
       clear hb1
       go_wp2_with fail
       (with_reducible refine (HF1.out _ HB1.out).mono ?_);rintro r w2 ⟨rfl,hb2⟩
       have HC2:Hid (Below (w.heap.size + 1) (w.alloc (entO e)) w2):=HC1.out.trans (hb2.mono (by have:=HC1.out.size;simp at this;omega))
       have HB2:Hid (Below w.heap.size w w2):=(HX.out w2 HC2.out).1
       clear hb2
       have cu:=(HND.out _ HB2.out u huM).1
       obtain ⟨-,-,x0,-⟩:=HX.out w2 HC2.out
       go_wp2_with fail
       (with_reducible refine (HF2.out _ HB2.out).mono ?_);rintro r w3 ⟨rfl,hb3⟩
       have HC3:Hid (Below (w.heap.size + 1) (w.alloc (entO e)) w3):=HC2.out.trans (hb3.mono (by have:=HC2.out.size;simp at this;omega))
       have HB3:Hid (Below w.heap.size w w3):=(HX.out w3 HC3.out).1
       clear hb3 cu x0 c0
       obtain ⟨-,-,c0,c1,c2,c3⟩:=HX.out w3 HC3.out
       obtain ⟨cy1,fy2,vy2,cy2⟩:=HND.out _ HB3.out y hyM
       have HQ:Hid (PutO F M w base t e (.returned (.bool true)) (w3.setCell ⟨y.b,2,none⟩ (.int .i64 e.mode))):=by
        obtain ⟨F',h1,h2,h3⟩:=HMO.out
        obtain ⟨a1,a2,a3⟩:=(HT.out.below HB3.out).mode hyM e.mode
        refine .inr ⟨F',_,h1,HRR.out.map (modeF_same y.ps e.mode) h2 h3,rfl,a1,(Turned.of_below HB3.out).trans a2,fun g hg => ?_,by rw [List.length_map];omega⟩
        rcases a3 g hg with e1 | e1
        ·exact .inl e1
        ·exact .inr (Nat.le_trans HB3.out.size e1)
       go_wp2_with fail
       go_ret
       exact HQ.out
      ·have y1:(y.kind == 1) = false:=by rw [beq_eq_false_iff_ne];exact hyk
       have HMM:Hid (∀ y,findM M (qs ++ [n]) = some y → ¬ (e.kind = 1 ∧ y.kind = 1)):=fun y' h1=>by rw [hy] at h1;rw [← Option.some.inj h1];exact fun hh=>hyk hh.2
       rw [hy] at HF2
       simp only [fV] at HF2
       clear hy hu huk hk4 hk1 hyk
       generalize joinL qs = us at *
       go_enter Tryz.func35,Tryz.ntmps35
       go_wp2_with fail
       (with_reducible refine (HS.out _).mono ?_);rintro r w1 ⟨rfl,hb1⟩
       have HC1:Hid (Below (w.heap.size + 1) (w.alloc (entO e)) w1):=hb1.mono (by simp)
       have HB1:Hid (Below w.heap.size w w1):=(HX.out w1 HC1.out).1
       clear hb1
       go_wp2_with fail
       (with_reducible refine (HF1.out _ HB1.out).mono ?_);rintro r w2 ⟨rfl,hb2⟩
       have HC2:Hid (Below (w.heap.size + 1) (w.alloc (entO e)) w2):=HC1.out.trans (hb2.mono (by have:=HC1.out.size;simp at this;omega))
       have HB2:Hid (Below w.heap.size w w2):=(HX.out w2 HC2.out).1
       clear hb2
       have cu:=(HND.out _ HB2.out u huM).1
       obtain ⟨-,-,x0,-⟩:=HX.out w2 HC2.out
       go_wp2_with fail
       (with_reducible refine (HF2.out _ HB2.out).mono ?_);rintro r w3 ⟨rfl,hb3⟩
       have HC3:Hid (Below (w.heap.size + 1) (w.alloc (entO e)) w3):=HC2.out.trans (hb3.mono (by have:=HC2.out.size;simp at this;omega))
       have HB3:Hid (Below w.heap.size w w3):=(HX.out w3 HC3.out).1
       clear hb3 cu x0 c0
       obtain ⟨-,-,c0,c1,c2,c3⟩:=HX.out w3 HC3.out
       have cy:=(HND.out _ HB3.out y hyM).1
       have HPP:=Lib.hid (HPL.out w3 1 e.mode [] HC3.out)
       go_wp2_with fail
       (with_reducible refine HPP.out.mono ?_);rintro r w4 HQ
       have HQ:=Lib.hid HQ
       obtain rfl:=HQ.out.1
       go_wp2_with fail
       go_ret
       exact put_done HRR.out HM.out HG.out HEP.out HU.out HUK.out HK4.out HMM.out (HZN.out _ _ _ _) (by unfold e2;rw [if_neg (by rw [HK1.out];decide)];exact HK1.out.symm) HQ.out
    ·have d1:(e.kind == 1) = false:=by rw [beq_eq_false_iff_ne];exact hk1
     have HK1:=Lib.hid hk1
     have HMM:Hid (∀ y,findM M (qs ++ [n]) = some y → ¬ (e.kind = 1 ∧ y.kind = 1)):=fun y' h1 hh=>HK1.out hh.1
     generalize fV (findM M (qs ++ [n])) = vy at *
     by_cases hk5:e.kind = 5
     ·have d5:(e.kind == 5) = true:=by rw [beq_iff_eq];exact hk5
      have HK5:=Lib.hid hk5
      clear hu huk hk4 hk1 hk5
      generalize joinL qs = us at *
      go_enter Tryz.func35,Tryz.ntmps35
      go_wp2_with fail
      (with_reducible refine (HS.out _).mono ?_);rintro r w1 ⟨rfl,hb1⟩
      have HC1:Hid (Below (w.heap.size + 1) (w.alloc (entO e)) w1):=hb1.mono (by simp)
      have HB1:Hid (Below w.heap.size w w1):=(HX.out w1 HC1.out).1
      clear hb1
      go_wp2_with fail
      (with_reducible refine (HF1.out _ HB1.out).mono ?_);rintro r w2 ⟨rfl,hb2⟩
      have HC2:Hid (Below (w.heap.size + 1) (w.alloc (entO e)) w2):=HC1.out.trans (hb2.mono (by have:=HC1.out.size;simp at this;omega))
      have HB2:Hid (Below w.heap.size w w2):=(HX.out w2 HC2.out).1
      clear hb2
      have cu:=(HND.out _ HB2.out u huM).1
      obtain ⟨-,-,x0,-⟩:=HX.out w2 HC2.out
      go_wp2_with fail
      (with_reducible refine (HF2.out _ HB2.out).mono ?_);rintro r w3 ⟨rfl,hb3⟩
      have HC3:Hid (Below (w.heap.size + 1) (w.alloc (entO e)) w3):=HC2.out.trans (hb3.mono (by have:=HC2.out.size;simp at this;omega))
      have HB3:Hid (Below w.heap.size w w3):=(HX.out w3 HC3.out).1
      clear hb3 cu x0 c0
      obtain ⟨-,-,c0,c1,c2,c3⟩:=HX.out w3 HC3.out
      have HPP:=Lib.hid (HPL.out w3 1 e.mode [] HC3.out)
      go_wp2_with fail
      (with_reducible refine HPP.out.mono ?_);rintro r w4 HQ
      have HQ:=Lib.hid HQ
      obtain rfl:=HQ.out.1
      go_wp2_with fail
      go_ret
      exact put_done HRR.out HM.out HG.out HEP.out HU.out HUK.out HK4.out HMM.out (HZN.out _ _ _ _) (by unfold e2;rw [if_pos HK5.out]) HQ.out
     ·have d5:(e.kind == 5) = false:=by rw [beq_eq_false_iff_ne];exact hk5
      have HK5:=Lib.hid hk5
      clear hu huk hk4 hk1 hk5
      generalize joinL qs = us at *
      go_enter Tryz.func35,Tryz.ntmps35
      go_wp2_with fail
      (with_reducible refine (HS.out _).mono ?_);rintro r w1 ⟨rfl,hb1⟩
      have HC1:Hid (Below (w.heap.size + 1) (w.alloc (entO e)) w1):=hb1.mono (by simp)
      have HB1:Hid (Below w.heap.size w w1):=(HX.out w1 HC1.out).1
      clear hb1
      go_wp2_with fail
      (with_reducible refine (HF1.out _ HB1.out).mono ?_);rintro r w2 ⟨rfl,hb2⟩
      have HC2:Hid (Below (w.heap.size + 1) (w.alloc (entO e)) w2):=HC1.out.trans (hb2.mono (by have:=HC1.out.size;simp at this;omega))
      have HB2:Hid (Below w.heap.size w w2):=(HX.out w2 HC2.out).1
      clear hb2
      have cu:=(HND.out _ HB2.out u huM).1
      obtain ⟨-,-,x0,-⟩:=HX.out w2 HC2.out
      go_wp2_with fail
      (with_reducible refine (HF2.out _ HB2.out).mono ?_);rintro r w3 ⟨rfl,hb3⟩
      have HC3:Hid (Below (w.heap.size + 1) (w.alloc (entO e)) w3):=HC2.out.trans (hb3.mono (by have:=HC2.out.size;simp at this;omega))
      have HB3:Hid (Below w.heap.size w w3):=(HX.out w3 HC3.out).1
      clear hb3 cu x0 c0
      obtain ⟨-,-,c0,c1,c2,c3⟩:=HX.out w3 HC3.out
      have HPP:=Lib.hid (HPL.out w3 e.kind e.mode e.data HC3.out)
      go_wp2_with fail
      (with_reducible refine HPP.out.mono ?_);rintro r w4 HQ
      have HQ:=Lib.hid HQ
      obtain rfl:=HQ.out.1
      go_wp2_with fail
      go_ret
      exact put_done HRR.out HM.out HG.out HEP.out HU.out HUK.out HK4.out HMM.out (HZN.out _ _ _ _) (by unfold e2;rw [if_neg HK5.out]) HQ.out
  ·have HO:Hid (applyF F e = none):=HRR.out.apply_up qs n HG.out e HEP.out (fun ⟨u',h1,h2⟩=>by rw [hu] at h1;rw [← Option.some.inj h1] at h2;exact huk h2)
   have hu1:(u.kind != 1) = true:=by rw [bne_iff_ne];exact huk
   clear hu HF2 huk
   generalize joinL qs = us at *
   go_enter Tryz.func35,Tryz.ntmps35
   go_wp2_with fail
   (with_reducible refine (HS.out _).mono ?_);rintro r w1 ⟨rfl,hb1⟩
   have HC1:Hid (Below (w.heap.size + 1) (w.alloc (entO e)) w1):=hb1.mono (by simp)
   have HB1:Hid (Below w.heap.size w w1):=(HX.out w1 HC1.out).1
   clear hb1
   go_wp2_with fail
   (with_reducible refine (HF1.out _ HB1.out).mono ?_);rintro r w2 ⟨rfl,hb2⟩
   have HC2:Hid (Below (w.heap.size + 1) (w.alloc (entO e)) w2):=HC1.out.trans (hb2.mono (by have:=HC1.out.size;simp at this;omega))
   have HB2:Hid (Below w.heap.size w w2):=(HX.out w2 HC2.out).1
   clear hb2
   have cu:=(HND.out _ HB2.out u huM).1
   go_wp2_with fail
   go_ret
   exact .inl ⟨HO.out,rfl,HB2.out⟩
end Go.Proofs.YtifhnpkapgaboaaGreat.doc
