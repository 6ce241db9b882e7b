/-
  Proved: the document's tree as a list of nodes with their paths (plain): what is edited, what is counted. Conditions: as each theorem says. No program is in sight.
  Proved: the document's tree in memory: nodes, their rows, what stays where others are written. Conditions: as each theorem says.
  Proved: the document's tree: a name among a node's kids, a new node's number. Conditions: as each theorem says.
-/
import Derived.Test.YtifhnpkapgaboaaGreatPj7
import Derived.Deep.DeepAppendWide
set_option linter.unusedVariables false
set_option linter.unusedSimpArgs false
namespace Go.Proofs.YtifhnpkapgaboaaGreat.doc
open Go Go.RowKit
abbrev Nm:=List UInt8
structure BN where
 ps:List Nm
 b:Nat
 kind:Int
 mode:Int
 data:Nm
 nv:Value
 kv:Value
 names:List Nm
 kids:List Nat
def bl (a b:Nm):Bool:=Op.bytesLess a b
theorem bl_eq:∀ (x y:Nm),bl x y = decide (x < y)
 | [],[]=>by simp [bl,Op.bytesLess]
 | _ :: _,[]=>by simp [bl,Op.bytesLess]
 | [],_ :: _=>by simp [bl,Op.bytesLess]
 | a :: x,b :: y=>by
  have ih:=bl_eq x y
  unfold bl at ih ⊢
  rw [Op.bytesLess,ih]
  simp only [List.cons_lt_cons_iff]
  by_cases h1:a < b <;> by_cases h2:a = b <;> by_cases h3:x < y <;> simp [h1,h2,h3]
theorem bl_irrefl (a:Nm):bl a a = false:=by rw [bl_eq];exact decide_eq_false (List.lt_irrefl a)
theorem bl_trans {a b c:Nm} (h:bl a b = true) (k:bl b c = true):bl a c = true:=by
 rw [bl_eq] at *
 exact decide_eq_true (List.lt_trans (of_decide_eq_true h) (of_decide_eq_true k))
theorem bl_tri (a b:Nm):bl a b = true ∨ a = b ∨ bl b a = true:=by
 rw [bl_eq,bl_eq]
 by_cases h:a < b
 ·exact .inl (decide_eq_true h)
 ·by_cases k:b < a
  ·exact .inr (.inr (decide_eq_true k))
  ·exact .inr (.inl (List.le_antisymm k h))
theorem bl_asymm {a b:Nm} (h:bl a b = true):bl b a = false:=by
 cases k:bl b a with
 | false=>rfl
 | true=>have:=bl_trans h k;rw [bl_irrefl] at this;cases this
def kidIx (ns:List Nm) (n:Nm):Nat:=(ns.takeWhile fun x=>bl x n).length
def Srt (ns:List Nm):Prop:=ns.Pairwise fun a b=>bl a b = true
theorem kidIx_le (ns:List Nm) (n:Nm):kidIx ns n ≤ ns.length:=(List.takeWhile_sublist _).length_le
theorem kidIx_low (ns:List Nm) (n:Nm) (j:Nat) (x:Nm) (hj:j < kidIx ns n) (hx:ns[j]? = some x):bl x n = true:=by
 unfold kidIx at hj
 induction ns generalizing j with
 | nil=>simp at hx
 | cons a r ih =>
  rw [List.takeWhile_cons] at hj
  by_cases ha:bl a n = true
  ·rw [if_pos ha] at hj
   cases j with
   | zero=>simp at hx;rw [← hx];exact ha
   | succ j=>exact ih j (by simpa using hj) (by simpa using hx)
  ·rw [if_neg ha] at hj;simp at hj
theorem kidIx_at (ns:List Nm) (n x:Nm) (hx:ns[kidIx ns n]? = some x):bl x n = false:=by
 unfold kidIx at hx
 induction ns with
 | nil=>simp at hx
 | cons a r ih =>
  rw [List.takeWhile_cons] at hx
  by_cases ha:bl a n = true
  ·rw [if_pos ha] at hx
   exact ih (by simpa using hx)
  ·rw [if_neg ha] at hx
   simp at hx
   rw [← hx];simpa using ha
theorem Srt.at {ns:List Nm} (h:Srt ns) {i:Nat} {n:Nm} (hn:ns[i]? = some n):kidIx ns n = i:=by
 obtain ⟨hi,he⟩:=List.getElem?_eq_some_iff.1 hn
 have hp:=List.pairwise_iff_getElem.1 h
 rcases Nat.lt_trichotomy (kidIx ns n) i with hk | hk | hk
 ·have hlt:kidIx ns n < ns.length:=by omega
  have h1:=hp (kidIx ns n) i hlt hi hk
  have h2:=kidIx_at ns n (ns[kidIx ns n]) (List.getElem?_eq_getElem hlt)
  rw [he,h2] at h1;cases h1
 ·exact hk
 ·have:=kidIx_low ns n i n hk hn
  rw [bl_irrefl] at this;cases this
theorem Srt.mem {ns:List Nm} (h:Srt ns) (n:Nm):n ∈ ns ↔ ns[kidIx ns n]? = some n:=by
 refine ⟨fun hm => ?_,fun he=>List.mem_of_getElem? he⟩
 obtain ⟨i,hi⟩:=List.getElem?_of_mem hm
 rw [h.at hi];exact hi
theorem Srt.nodup {ns:List Nm} (h:Srt ns):ns.Nodup:=h.imp fun hab e=>by rw [e,bl_irrefl] at hab;cases hab
def insN (ns:List Nm) (n:Nm):List Nm:=ns.take (kidIx ns n) ++ n :: ns.drop (kidIx ns n)
theorem mem_insN (ns:List Nm) (n x:Nm):x ∈ insN ns n ↔ x = n ∨ x ∈ ns:=by
 unfold insN
 conv=>rhs;rw [← List.take_append_drop (kidIx ns n) ns]
 simp only [List.mem_append,List.mem_cons]
 constructor
 ·rintro (h | h | h) <;> simp [h]
 ·rintro (h | h | h) <;> simp [h]
theorem Srt.ins {ns:List Nm} (h:Srt ns) (n:Nm) (hn:n ∉ ns):Srt (insN ns n):=by
 unfold insN Srt
 have hp:=List.pairwise_iff_getElem.1 h
 have hlo:∀ x ∈ ns.take (kidIx ns n),bl x n = true:=fun x hx=>by
  obtain ⟨j,hj⟩:=List.getElem?_of_mem hx
  have hjl:=(List.getElem?_eq_some_iff.1 hj).1
  rw [List.length_take] at hjl
  rw [List.getElem?_take_of_lt (by omega)] at hj
  exact kidIx_low ns n j x (by omega) hj
 have hhi:∀ x ∈ ns.drop (kidIx ns n),bl n x = true:=fun x hx=>by
  obtain ⟨j,hj⟩:=List.getElem?_of_mem hx
  rw [List.getElem?_drop] at hj
  have hxm:x ∈ ns:=List.mem_of_getElem? hj
  have hne:n ≠ x:=fun e=>hn (e ▸ hxm)
  have hjl:=(List.getElem?_eq_some_iff.1 hj).1
  have h0:bl ns[kidIx ns n] n = false:=kidIx_at ns n _ (List.getElem?_eq_getElem (by omega))
  have hn0:n ≠ ns[kidIx ns n]:=fun e=>hn (e ▸ List.getElem_mem _)
  have h1:bl n ns[kidIx ns n] = true:=by
   rcases bl_tri n ns[kidIx ns n] with a | a | a
   ·exact a
   ·exact absurd a hn0
   ·rw [h0] at a;cases a
  cases j with
  | zero =>
   rw [Nat.add_zero,List.getElem?_eq_getElem (by omega)] at hj
   rw [← Option.some.inj hj];exact h1
  | succ j =>
   have hx2:=(List.getElem?_eq_some_iff.1 hj).2
   have:=hp (kidIx ns n) (kidIx ns n + (j + 1)) (by omega) hjl (by omega)
   rw [hx2] at this
   exact bl_trans h1 this
 refine List.pairwise_append.2 ⟨h.sublist (List.take_sublist _ _),List.pairwise_cons.2 ⟨hhi,h.sublist (List.drop_sublist _ _)⟩,fun a ha b hb => ?_⟩
 rcases List.mem_cons.1 hb with rfl | hb
 ·exact hlo a ha
 ·exact bl_trans (hlo a ha) (hhi b hb)
theorem Srt.del {ns:List Nm} (h:Srt ns) (i:Nat):Srt (ns.eraseIdx i):=h.sublist (List.eraseIdx_sublist _ _)
/-! the list of nodes -/
abbrev DM:=List BN
def findM (M:DM) (ps:List Nm):Option BN:=M.find? fun x=>decide (x.ps = ps)
def atB (ps qs:List Nm):Bool:=ps.isPrefixOf qs
def cutM (M:DM) (ps:List Nm):DM:=M.filter fun y => !atB ps y.ps
def modM (M:DM) (ps:List Nm) (f:BN → BN):DM:=M.map fun x=>if x.ps = ps then f x else x
theorem atB_iff (ps qs:List Nm):atB ps qs = true ↔ ps <+: qs:=List.isPrefixOf_iff_prefix
structure WF (M:DM):Prop where
 keys:(M.map (·.ps)).Nodup
 root:∃ r rest,M = r :: rest ∧ r.ps = [] ∧ r.kind = 1
 srt:∀ x ∈ M,Srt x.names
 len:∀ x ∈ M,x.names.length = x.kids.length
 down:∀ x ∈ M,∀ (i:Nat) (n:Nm) (c:Nat),x.names[i]? = some n → x.kids[i]? = some c → ∃ y ∈ M,y.ps = x.ps ++ [n] ∧ y.b = c
 up:∀ y ∈ M,∀ (qs:List Nm) (n:Nm),y.ps = qs ++ [n] → ∃ x ∈ M,x.ps = qs ∧ n ∈ x.names
theorem WF.one {M:DM} (h:WF M) {x y:BN} (hx:x ∈ M) (hy:y ∈ M) (e:x.ps = y.ps):x = y:=by
 have hk:=h.keys
 clear h
 induction M with
 | nil=>cases hx
 | cons a r ih =>
  rw [List.map_cons,List.nodup_cons] at hk
  rcases List.mem_cons.1 hx with hx2 | hx2
  ·rcases List.mem_cons.1 hy with hy2 | hy2
   ·rw [hx2,hy2]
   ·exact absurd (List.mem_map.2 ⟨y,hy2,by rw [← e,hx2]⟩) hk.1
  ·rcases List.mem_cons.1 hy with hy2 | hy2
   ·exact absurd (List.mem_map.2 ⟨x,hx2,by rw [e,hy2]⟩) hk.1
   ·exact ih hx2 hy2 hk.2
theorem findM_some {M:DM} {ps:List Nm} {x:BN} (h:findM M ps = some x):x ∈ M ∧ x.ps = ps:=
 ⟨List.mem_of_find?_eq_some h,of_decide_eq_true (List.find?_some (p:=fun x:BN=>decide (x.ps = ps)) h)⟩
theorem findM_none {M:DM} {ps:List Nm} (h:findM M ps = none):∀ x ∈ M,x.ps ≠ ps:=fun x hx e=>by
 have:=List.find?_eq_none.1 h x hx
 simp [e] at this
theorem WF.find {M:DM} (h:WF M) {x:BN} (hx:x ∈ M):findM M x.ps = some x:=by
 cases hf:findM M x.ps with
 | none=>exact absurd rfl (findM_none hf x hx)
 | some y=>rw [h.one (findM_some hf).1 hx (findM_some hf).2]
theorem WF.kid {M:DM} (h:WF M) {x:BN} (hx:x ∈ M) (n:Nm):(n ∈ x.names ∧ ∃ y,findM M (x.ps ++ [n]) = some y ∧ x.kids[kidIx x.names n]? = some y.b) ∨ (n ∉ x.names ∧ findM M (x.ps ++ [n]) = none):=by
 by_cases hn:n ∈ x.names
 ·refine .inl ⟨hn,?_⟩
  have h1:=((h.srt x hx).mem n).1 hn
  have hl:=(List.getElem?_eq_some_iff.1 h1).1
  rw [h.len x hx] at hl
  obtain ⟨y,hy,he,hb⟩:=h.down x hx _ n _ h1 (List.getElem?_eq_getElem hl)
  refine ⟨y,?_,?_⟩
  ·rw [← he];exact h.find hy
  ·rw [hb];exact List.getElem?_eq_getElem hl
 ·refine .inr ⟨hn,?_⟩
  cases hf:findM M (x.ps ++ [n]) with
  | none=>rfl
  | some y =>
   obtain ⟨hy,he⟩:=findM_some hf
   obtain ⟨z,hz,hze,hzn⟩:=h.up y hy x.ps n he
   rw [h.one hz hx hze] at hzn
   exact absurd hzn hn
theorem mem_cut {M:DM} {ps:List Nm} {x:BN}:x ∈ cutM M ps ↔ x ∈ M ∧ ¬ ps <+: x.ps:=by
 unfold cutM
 rw [List.mem_filter,Bool.not_eq_true',← Bool.not_eq_true,atB_iff]
theorem mem_mod {M:DM} {ps:List Nm} {f:BN → BN} {y:BN}:y ∈ modM M ps f ↔ ∃ x ∈ M,(if x.ps = ps then f x else x) = y:=by unfold modM;exact List.mem_map
theorem mod_keys (M:DM) (ps:List Nm) (f:BN → BN) (hf:∀ x,(f x).ps = x.ps):(modM M ps f).map (·.ps) = M.map (·.ps):=by
 unfold modM
 rw [List.map_map]
 refine List.map_congr_left fun x _ => ?_
 show (if x.ps = ps then f x else x).ps = x.ps
 split
 ·exact hf x
 ·rfl
theorem not_pre (ps:List Nm) (n:Nm):¬ (ps ++ [n]) <+: ps:=fun h=>by
 have:=h.length_le
 rw [List.length_append] at this
 simp at this
 try omega
theorem WF.edit {M:DM} (h:WF M) {x0:BN} (hx:x0 ∈ M) (n:Nm) (f:BN → BN) (zs:DM) (hf:∀ x,(f x).ps = x.ps ∧ (f x).b = x.b ∧ (f x).kind = x.kind)
  (hs:Srt (f x0).names) (hl:(f x0).names.length = (f x0).kids.length)
  (hd:∀ (i:Nat) (m:Nm) (c:Nat),(f x0).names[i]? = some m → (f x0).kids[i]? = some c → (m ≠ n ∧ ∃ j:Nat,x0.names[j]? = some m ∧ x0.kids[j]? = some c) ∨ (∃ z ∈ zs,m = n ∧ z.b = c))
  (hu:∀ m ∈ x0.names,m ≠ n → m ∈ (f x0).names)
  (hz:∀ z ∈ zs,z.ps = x0.ps ++ [n] ∧ z.names = [] ∧ z.kids = [] ∧ n ∈ (f x0).names) (hz1:zs.length ≤ 1) :
  WF (modM (cutM M (x0.ps ++ [n])) x0.ps f ++ zs):=by
 have h0:x0 ∈ cutM M (x0.ps ++ [n]):=mem_cut.2 ⟨hx,not_pre _ _⟩
 have hin:∀ y ∈ M,¬ (x0.ps ++ [n]) <+: y.ps → ∃ y' ∈ modM (cutM M (x0.ps ++ [n])) x0.ps f ++ zs,y'.ps = y.ps ∧ y'.b = y.b:=fun y hy hp=>by
  refine ⟨_,List.mem_append_left _ (mem_mod.2 ⟨y,mem_cut.2 ⟨hy,hp⟩,rfl⟩),?_⟩
  split
  ·exact ⟨(hf y).1,(hf y).2.1⟩
  ·exact ⟨rfl,rfl⟩
 have hf0:f x0 ∈ modM (cutM M (x0.ps ++ [n])) x0.ps f ++ zs:=List.mem_append_left _ (mem_mod.2 ⟨x0,h0,if_pos rfl⟩)
 refine ⟨?_,?_,?_,?_,?_,?_⟩
 ·rw [List.map_append,mod_keys _ _ _ fun x=>(hf x).1]
  refine List.nodup_append.2 ⟨h.keys.sublist (List.filter_sublist.map _),?_,?_⟩
  ·match zs,hz1 with
   | [],_=>exact List.nodup_nil
   | [z],_=>simp
  ·intro a ha b hb e
   obtain ⟨x,hxc,rfl⟩:=List.mem_map.1 ha
   obtain ⟨z,hzz,rfl⟩:=List.mem_map.1 hb
   refine (mem_cut.1 hxc).2 ?_
   rw [e,(hz z hzz).1]
   exact List.prefix_refl _
 ·obtain ⟨r,rest,rfl,hr,hk⟩:=h.root
  have:cutM (r :: rest) (x0.ps ++ [n]) = r :: cutM rest (x0.ps ++ [n]):=by
   unfold cutM
   rw [List.filter_cons_of_pos]
   rw [Bool.not_eq_true',← Bool.not_eq_true,atB_iff,hr]
   intro hp
   have:=hp.length_le
   simp at this
  rw [this]
  refine ⟨_,_,rfl,?_,?_⟩
  ·show (if r.ps = x0.ps then f r else r).ps = []
   split
   ·rw [(hf r).1];exact hr
   ·exact hr
  ·show (if r.ps = x0.ps then f r else r).kind = 1
   split
   ·rw [(hf r).2.2];exact hk
   ·exact hk
 ·intro y hy
  rcases List.mem_append.1 hy with hy | hy
  ·obtain ⟨x,hxc,rfl⟩:=mem_mod.1 hy
   split
   ·rename_i e
    rw [h.one (mem_cut.1 hxc).1 hx e];exact hs
   ·exact h.srt x (mem_cut.1 hxc).1
  ·rw [(hz y hy).2.1];exact List.Pairwise.nil
 ·intro y hy
  rcases List.mem_append.1 hy with hy | hy
  ·obtain ⟨x,hxc,rfl⟩:=mem_mod.1 hy
   split
   ·rename_i e
    rw [h.one (mem_cut.1 hxc).1 hx e];exact hl
   ·exact h.len x (mem_cut.1 hxc).1
  ·rw [(hz y hy).2.1,(hz y hy).2.2.1];rfl
 ·intro y hy i m c h1 h2
  rcases List.mem_append.1 hy with hy | hy
  ·obtain ⟨x,hxc,rfl⟩:=mem_mod.1 hy
   obtain ⟨hxM,hxp⟩:=mem_cut.1 hxc
   by_cases e:x.ps = x0.ps
   ·obtain rfl:=h.one hxM hx e
    rw [if_pos rfl] at h1 h2 ⊢
    rcases hd i m c h1 h2 with ⟨hm,j,g1,g2⟩ | ⟨z,hzz,rfl,rfl⟩
    ·obtain ⟨y,hyM,hyp,hyb⟩:=h.down x hxM j m c g1 g2
     obtain ⟨y',hy',e1,e2⟩:=hin y hyM (by
      rw [hyp]
      intro hp
      have:=List.prefix_append_right_inj x.ps |>.1 hp
      have:=List.cons_prefix_cons.1 this
      exact hm this.1.symm)
     exact ⟨y',hy',by rw [e1,hyp,(hf x).1],by rw [e2,hyb]⟩
    ·exact ⟨z,List.mem_append_right _ hzz,by rw [(hz z hzz).1,(hf x).1],rfl⟩
   ·rw [if_neg e] at h1 h2 ⊢
    obtain ⟨y,hyM,hyp,hyb⟩:=h.down x hxM i m c h1 h2
    obtain ⟨y',hy',e1,e2⟩:=hin y hyM (by
     rw [hyp]
     intro hp
     rcases List.prefix_concat_iff.1 hp with hp | hp
     ·exact e (List.append_inj_left' hp.symm rfl)
     ·exact hxp hp)
    exact ⟨y',hy',by rw [e1,hyp],by rw [e2,hyb]⟩
  ·rw [(hz y hy).2.1] at h1;simp at h1
 ·intro y hy qs m he
  rcases List.mem_append.1 hy with hy | hy
  ·obtain ⟨x,hxc,hxe⟩:=mem_mod.1 hy
   obtain ⟨hxM,hxp⟩:=mem_cut.1 hxc
   have hps:x.ps = qs ++ [m]:=by
    rw [← he,← hxe]
    split
    ·exact (hf x).1.symm
    ·rfl
   obtain ⟨u,huM,hup,hun⟩:=h.up x hxM qs m hps
   by_cases e:u.ps = x0.ps
   ·obtain rfl:=h.one huM hx e
    refine ⟨_,hf0,by rw [(hf u).1,hup],hu m hun ?_⟩
    rintro rfl
    refine hxp ?_
    rw [hps,hup]
    exact List.prefix_refl _
   ·refine ⟨u,List.mem_append_left _ (mem_mod.2 ⟨u,mem_cut.2 ⟨huM,fun hp=>hxp ?_⟩,if_neg e⟩),hup,hun⟩
    rw [hps,← hup]
    exact hp.trans (List.prefix_append _ _)
  ·obtain ⟨h1,h2,h3,h4⟩:=hz y hy
   rw [h1] at he
   obtain ⟨e1,e2⟩:=List.append_inj' he rfl
   cases e2
   exact ⟨_,hf0,by rw [(hf x0).1,e1],h4⟩
/-! how many lie below -/
def belB (ps qs:List Nm):Bool:=atB ps qs && decide (ps ≠ qs)
def cnt (M:DM) (ps:List Nm):Nat:=M.countP fun y=>belB ps y.ps
theorem countP_or {α:Type} (p q:α → Bool) (l:List α) (h:∀ x ∈ l,p x = true → q x = false):l.countP (fun x=>p x || q x) = l.countP p + l.countP q:=by
 induction l with
 | nil=>rfl
 | cons a r ih =>
  rw [List.countP_cons,List.countP_cons,List.countP_cons,ih fun x hx=>h x (List.mem_cons_of_mem _ hx)]
  have:=h a List.mem_cons_self
  cases hp:p a <;> cases hq:q a <;> simp_all <;> omega
theorem countP_any {α:Type} (P:Nm → α → Bool) (l:List α) (ns:List Nm) (hn:ns.Nodup) (h:∀ x ∈ l,∀ n m,P n x = true → P m x = true → n = m):l.countP (fun x=>ns.any fun n=>P n x) = (ns.map fun n=>l.countP (P n)).sum:=by
 induction ns with
 | nil=>simp
 | cons a r ih =>
  rw [List.nodup_cons] at hn
  have e:(fun x=>(a :: r).any fun n=>P n x) = fun x=>P a x || r.any fun n=>P n x:=by funext x;rw [List.any_cons]
  rw [e,countP_or,ih hn.2,List.map_cons,List.sum_cons]
  intro x hx ha
  cases hr:r.any fun n=>P n x with
  | false=>rfl
  | true =>
   obtain ⟨m,hm,hp⟩:=List.any_eq_true.1 hr
   rw [h x hx a m ha hp] at hn
   exact absurd hm hn.1
theorem WF.count_at {M:DM} (h:WF M) {y:BN} (hy:y ∈ M):M.countP (fun z=>atB y.ps z.ps) = 1 + cnt M y.ps:=by
 have e:(fun z:BN=>atB y.ps z.ps) = fun z=>decide (z.ps = y.ps) || belB y.ps z.ps:=by
  funext z
  unfold belB
  by_cases hz:z.ps = y.ps
  ·rw [hz]
   have:atB y.ps y.ps = true:=(atB_iff _ _).2 (List.prefix_refl _)
   simp [this]
  ·simp [hz,Ne.symm hz]
 rw [e,countP_or]
 ·congr 1
  have hk:=h.keys
  have h1:M.countP (fun z=>decide (z.ps = y.ps)) = (M.map (·.ps)).count y.ps:=by
   rw [List.count_eq_countP,List.countP_map]
   refine List.countP_congr fun z _ => ?_
   simp
  rw [h1]
  exact (List.Nodup.count hk).trans (if_pos (List.mem_map.2 ⟨y,hy,rfl⟩))
 ·intro z _ hz
  unfold belB
  rw [of_decide_eq_true hz]
  simp
theorem WF.count {M:DM} (h:WF M) {x:BN} (hx:x ∈ M):cnt M x.ps = (x.names.map fun n=>1 + cnt M (x.ps ++ [n])).sum:=by
 have e:M.countP (fun y=>belB x.ps y.ps) = M.countP (fun y=>x.names.any fun n=>atB (x.ps ++ [n]) y.ps):=by
  refine List.countP_congr fun y hy => ?_
  rw [List.any_eq_true]
  unfold belB
  rw [Bool.and_eq_true,atB_iff,decide_eq_true_iff]
  constructor
  ·rintro ⟨⟨t,ht⟩,hne⟩
   have htn:t ≠ []:=fun e=>hne (by rw [← ht,e,List.append_nil])
   -- the first name behind
   obtain ⟨n,t',rfl⟩:=List.exists_cons_of_ne_nil htn
   have key:∀ (k:Nat) (u:List Nm) (z:BN),u.length = k → z ∈ M → z.ps = x.ps ++ n :: u → n ∈ x.names:=by
    intro k
    induction k with
    | zero =>
     intro u z hu hz hzp
     obtain rfl:=List.length_eq_zero_iff.1 hu
     obtain ⟨v,hv,hvp,hvn⟩:=h.up z hz x.ps n hzp
     rwa [h.one hv hx hvp] at hvn
    | succ k ih =>
     intro u z hu hz hzp
     have hun:u ≠ []:=fun e=>by rw [e] at hu;simp at hu
     obtain ⟨v,hv,hvp,hvn⟩:=h.up z hz (x.ps ++ n :: u.dropLast) (u.getLast hun) (by rw [hzp];simp [List.dropLast_concat_getLast])
     exact ih u.dropLast v (by simp [hu]) hv hvp
   exact ⟨n,key _ t' y rfl hy ht.symm,(atB_iff _ _).2 ⟨t',by rw [← ht];simp⟩⟩
  ·rintro ⟨n,hn,hp⟩
   rw [atB_iff] at hp
   refine ⟨(List.prefix_append _ _).trans hp,fun e=>not_pre x.ps n ?_⟩
   rw [← e] at hp
   exact hp
 show M.countP (fun y=>belB x.ps y.ps) = _
 rw [e,countP_any (fun n (y:BN)=>atB (x.ps ++ [n]) y.ps) M x.names (h.srt x hx).nodup]
 ·congr 1
  refine List.map_congr_left fun n hn => ?_
  rcases h.kid hx n with ⟨_,y,hy,_⟩ | ⟨hno,_⟩
  ·obtain ⟨hyM,hyp⟩:=findM_some hy
   rw [← hyp]
   exact h.count_at hyM
  ·exact absurd hn hno
 ·intro y _ n m h1 h2
  rw [atB_iff] at h1 h2
  obtain ⟨t1,e1⟩:=h1
  obtain ⟨t2,e2⟩:=h2
  rw [← e2] at e1
  simp only [List.append_assoc,List.append_cancel_left_eq] at e1
  exact (List.cons.inj e1).1
theorem cnt_lt {M:DM} (h:WF M) {x:BN} (hx:x ∈ M) {n:Nm} (hn:n ∈ x.names):cnt M (x.ps ++ [n]) < cnt M x.ps:=by
 rw [h.count hx]
 have:∀ ns:List Nm,n ∈ ns → cnt M (x.ps ++ [n]) < (ns.map fun n=>1 + cnt M (x.ps ++ [n])).sum:=by
  intro ns
  induction ns with
  | nil=>intro h;cases h
  | cons a r ih =>
   intro hm
   rw [List.map_cons,List.sum_cons]
   rcases List.mem_cons.1 hm with rfl | hm
   ·omega
   ·have:=ih hm;omega
 exact this _ hn
theorem WF.count_root {M:DM} (h:WF M):cnt M [] + 1 = M.length:=by
 obtain ⟨r,rest,he,hr,-⟩:=h.root
 have h1:=h.count_at (y:=r) (by rw [he];exact List.mem_cons_self)
 rw [hr] at h1
 have:M.countP (fun z=>atB [] z.ps) = M.length:=by
  rw [List.countP_eq_length]
  intro z _
  exact (atB_iff _ _).2 (List.nil_prefix)
 omega
end Go.Proofs.YtifhnpkapgaboaaGreat.doc
namespace Go.Proofs.YtifhnpkapgaboaaGreat.doc
open Go Go.RowKit
open heap
open path (sv str_size SRow own_kept own_base add0)
abbrev pV (b:Nat):Value:=.pointer (some ⟨b,0,none⟩)
def bO (id kind mode:Int) (data:Nm) (nv kv up:Value):Obj:=.cells #[.int .i64 id,.int .i64 kind,.int .i64 mode,sv data,nv,kv,up] 62 (0,0)
def KRow (w:World) (base:Nat) (v:Value) (ks:List Nat):Prop:=w.ownsRow base 55 1 v ks.length (ks.map pV)
structure NodeAt (w:World) (base:Nat) (x:BN):Prop where
 blk:∃ id up,w.heap[x.b]? = some (bO id x.kind x.mode x.data x.nv x.kv up)
 own:base ≤ x.b
 ns:SRow w base x.nv x.names
 ks:KRow w base x.kv x.kids
def blks (x:BN):List Nat:=x.b :: (x.nv.ownBlock.toList ++ x.kv.ownBlock.toList)
theorem mem_blks {x:BN} {g:Nat}:g ∈ blks x ↔ g = x.b ∨ x.nv.ownBlock = some g ∨ x.kv.ownBlock = some g:=by
 unfold blks
 simp [Option.mem_toList]
theorem KRow.kept {w w':World} {base:Nat} {v:Value} {ks:List Nat} (h:KRow w base v ks) (hk:∀ g o,v.ownBlock = some g → w.heap[g]? = some o → o.isCells = true → w'.heap[g]? = some o):KRow w' base v ks:=by
 obtain ⟨hl,h1 | ⟨g,c,cur,rfl,h2,h3,h4⟩⟩:=h
 ·exact ⟨hl,.inl h1⟩
 ·exact ⟨hl,.inr ⟨g,c,cur,rfl,h2,hk g _ rfl h3 rfl,h4⟩⟩
theorem KRow.turned {w w':World} {base:Nat} {v:Value} {ks:List Nat} {S:List Nat} (h:KRow w base v ks) (ht:Turned S w w') (hS:∀ g,v.ownBlock = some g → g ∉ S):KRow w' base v ks:=h.kept fun g o hg ho _=>ht.kept ho (hS g hg)
theorem KRow.lt {w:World} {base:Nat} {v:Value} {ks:List Nat} (h:KRow w base v ks) {g:Nat} (hg:v.ownBlock = some g):base ≤ g ∧ g < w.heap.size:=World.ownsRow.lt h g hg
theorem NodeAt.lt {w:World} {base:Nat} {x:BN} (h:NodeAt w base x) {g:Nat} (hg:g ∈ blks x):base ≤ g ∧ g < w.heap.size:=by
 rcases mem_blks.1 hg with e | e | e
 ·obtain ⟨id,up,hb⟩:=h.blk
  rw [e];exact ⟨h.own,blk_lt hb⟩
 ·exact World.ownsRow.lt h.ns g e
 ·exact h.ks.lt e
theorem NodeAt.turned {w w':World} {base:Nat} {x:BN} {S:List Nat} (h:NodeAt w base x) (ht:Turned S w w') (hS:∀ g ∈ blks x,g ∉ S):NodeAt w' base x:=by
 obtain ⟨id,up,hb⟩:=h.blk
 exact ⟨⟨id,up,ht.kept hb (hS _ (mem_blks.2 (.inl rfl)))⟩,h.own,h.ns.turned ht fun g hg=>hS g (mem_blks.2 (.inr (.inl hg))),h.ks.turned ht fun g hg=>hS g (mem_blks.2 (.inr (.inr hg)))⟩
structure TreeP (w:World) (base t:Nat) (M:DM):Prop where
 tb:∃ r rest c f l i m nx bs,M = r :: rest ∧ w.heap[t]? = some (.cells #[pV r.b,c,f,l,i,m,.int .i64 nx,bs] 78 (0,0))
 own:base ≤ t
 wf:WF M
 node:∀ x ∈ M,NodeAt w base x
 one:∀ x ∈ M,(blks x).Nodup ∧ t ∉ blks x
 two:∀ x ∈ M,∀ y ∈ M,x.ps ≠ y.ps → ∀ g ∈ blks x,g ∉ blks y
def allB (t:Nat) (M:DM):List Nat:=t :: M.flatMap blks
theorem mem_allB {t g:Nat} {M:DM}:g ∈ allB t M ↔ g = t ∨ ∃ x ∈ M,g ∈ blks x:=by unfold allB;simp
theorem TreeP.lt {w:World} {base t:Nat} {M:DM} (h:TreeP w base t M) {g:Nat} (hg:g ∈ allB t M):base ≤ g ∧ g < w.heap.size:=by
 rcases mem_allB.1 hg with rfl | ⟨x,hx,hgx⟩
 ·obtain ⟨_,_,_,_,_,_,_,_,_,_,hb⟩:=h.tb
  exact ⟨h.own,blk_lt hb⟩
 ·exact (h.node x hx).lt hgx
theorem TreeP.turned {w w':World} {base t:Nat} {M:DM} {S:List Nat} (h:TreeP w base t M) (ht:Turned S w w') (hS:∀ g ∈ allB t M,g ∉ S):TreeP w' base t M:=by
 obtain ⟨r,rest,c,f,l,i,m,nx,bs,hM,hb⟩:=h.tb
 exact ⟨⟨r,rest,c,f,l,i,m,nx,bs,hM,ht.kept hb (hS _ (mem_allB.2 (.inl rfl)))⟩,h.own,h.wf,fun x hx=>(h.node x hx).turned ht fun g hg=>hS g (mem_allB.2 (.inr ⟨x,hx,hg⟩)),h.one,h.two⟩
theorem TreeP.below {w w':World} {base t:Nat} {M:DM} (h:TreeP w base t M) (hb:Below w.heap.size w w'):TreeP w' base t M:=h.turned (Turned.of_below (S := []) hb) (by simp)
theorem TreeP.edit {w w':World} {base t:Nat} {M M':DM} {S:List Nat} (h:TreeP w base t M) (ht:Turned S w w') (hwf:WF M')
  (htb:∃ r rest c f l i m nx bs,M' = r :: rest ∧ w'.heap[t]? = some (.cells #[pV r.b,c,f,l,i,m,.int .i64 nx,bs] 78 (0,0)))
  (hn:∀ x ∈ M',(x ∈ M ∧ ∀ g ∈ blks x,g ∉ S) ∨ (NodeAt w' base x ∧ (blks x).Nodup ∧ (∀ g ∈ blks x,w.heap.size ≤ g ∨ ∃ y ∈ M,y.ps = x.ps ∧ g ∈ blks y)))
  (hd:∀ x ∈ M',∀ y ∈ M',x.ps ≠ y.ps → ∀ g ∈ blks x,g ∈ blks y → g < w.heap.size):TreeP w' base t M':=by
 have htl:t < w.heap.size:=(h.lt (mem_allB.2 (.inl rfl))).2
 refine ⟨htb,h.own,hwf,fun x hx => ?_,fun x hx => ?_,fun x hx y hy hne g hgx hgy => ?_⟩
 ·rcases hn x hx with ⟨hxM,hS⟩ | ⟨h1,-⟩
  ·exact (h.node x hxM).turned ht hS
  ·exact h1
 ·rcases hn x hx with ⟨hxM,hS⟩ | ⟨h1,h2,h3⟩
  ·exact h.one x hxM
  ·refine ⟨h2,fun hm => ?_⟩
   rcases h3 t hm with e | ⟨y,hy,-,hg⟩
   ·omega
   ·exact (h.one y hy).2 hg
 ·have hlt:=hd x hx y hy hne g hgx hgy
  have old:∀ z ∈ M',g ∈ blks z → ∃ u ∈ M,u.ps = z.ps ∧ g ∈ blks u:=fun z hz hg=>by
   rcases hn z hz with ⟨hzM,-⟩ | ⟨-,-,h3⟩
   ·exact ⟨z,hzM,rfl,hg⟩
   ·rcases h3 g hg with e | e
    ·omega
    ·exact e
  obtain ⟨u,hu,hue,hug⟩:=old x hx hgx
  obtain ⟨v,hv,hve,hvg⟩:=old y hy hgy
  exact h.two u hu v hv (by rw [hue,hve];exact hne) g hug hvg
end Go.Proofs.YtifhnpkapgaboaaGreat.doc
namespace Go.Proofs.YtifhnpkapgaboaaGreat.doc
open Go Go.RowKit
open heap
open path (sv str_size SRow own_kept own_base add0)
set_option maxRecDepth 100000
theorem KRow.cells {w:World} {base:Nat} {v:Value} {ks:List Nat} (h:KRow w base v ks):(v = .slice none 0 0 ∧ ks = []) ∨ ∃ g c,v = .slice (some ⟨g,0,none⟩) ks.length c ∧ g < w.heap.size ∧ ks.length ≤ c ∧ c ≤ maxLen ∧ ∀ j k,ks[j]? = some k → w.cell? ⟨g,j,none⟩ = some (pV k):=by
 have hlt:=World.ownsRow.lt h
 have hcl := @World.ownsRow.cells _ _ _ _ _ _ _ h
 obtain ⟨hl,⟨h1,h2⟩ | ⟨g,c,cur,hv,h2,h3,h4,h5,h6,h7⟩⟩:=h
 ·exact .inl ⟨h1,List.length_eq_zero_iff.1 h2⟩
 ·refine .inr ⟨g,c,hv,(hlt g (by rw [hv];rfl)).2,h4,h5,fun j q hq => ?_⟩
  have:=hcl (g:=g) (by rw [hv];rfl) j (pV q) (by simp [hq])
  rwa [add0] at this
def kidR (x:BN) (n:Nm) (e:Ending):Prop:=(∃ c,x.names[kidIx x.names n]? = some n ∧ x.kids[kidIx x.names n]? = some c ∧ e = .returned (.tuple #[pV c,.int .i64 (kidIx x.names n)])) ∨ (x.names[kidIx x.names n]? ≠ some n ∧ e = .returned (.tuple #[.pointer none,.int .i64 (kidIx x.names n)]))
set_option maxHeartbeats 1000000 in
theorem kid_any (base:Nat) (x:BN) (n:Nm) (w:World) (h:NodeAt w base x) (hlen:x.names.length = x.kids.length) (hsz:x.names.length ≤ 1000000000) :
  Calls Tryz.prog 64 #[pV x.b,sv n] w fun e w'=>kidR x n e ∧ w = w':=by
 obtain ⟨id,up,hb⟩:=h.blk
 have c4:w.cell? ⟨x.b,4,none⟩ = some x.nv:=by rw [blk_cell hb];rfl
 have c5:w.cell? ⟨x.b,5,none⟩ = some x.kv:=by rw [blk_cell hb];rfl
 have hkl:=kidIx_le x.names n
 have HLO:=Lib.hid (fun j y hj hy=>kidIx_low x.names n j y hj hy)
 have HAT:=Lib.hid (fun y hy=>kidIx_at x.names n y hy)
 have HN:=Lib.hid (path.SRow.cells h.ns)
 have HK:=Lib.hid h.ks.cells
 obtain ⟨a4,n4,e4⟩:∃ a c,x.nv = .slice a x.names.length c:=by
  rcases HN.out with ⟨e1,e2⟩ | ⟨g,c,e1,-⟩
  ·exact ⟨none,0,by rw [e1,e2];rfl⟩
  ·exact ⟨_,_,e1⟩
 obtain ⟨a5,n5,e5⟩:∃ a c,x.kv = .slice a x.kids.length c:=by
  rcases HK.out with ⟨e1,e2⟩ | ⟨g,c,e1,-⟩
  ·exact ⟨none,0,by rw [e1,e2];rfl⟩
  ·exact ⟨_,_,e1⟩
 rw [e4] at c4 HN
 rw [e5] at c5 HK
 clear h hb e4 e5
 unfold kidR
 generalize kidIx x.names n = m at *
 generalize hns:x.names = ns at *
 generalize hks:x.kids = ks at *
 generalize x.b = b at *
 clear hns hks
 go_enter Tryz.func64,Tryz.ntmps64
 go_wp2_with fail
 go_loopg [6] m (fun kk v6 wr=>∃ i:Nat,i + kk = m ∧ v6 = .int .i64 i ∧ w = wr)
 case atStart=>exact ⟨0,by omega,rfl,rfl⟩
 case round =>
  obtain ⟨i,hik,rfl,rfl⟩:=hrel
  by_cases hlt:i < ns.length
  ·rcases HN.out with ⟨-,h0⟩ | ⟨g,c,e1,hg,hc1,hc2,hcl⟩
   ·rw [h0] at hlt;exact absurd hlt (by simp)
   simp only [Value.slice.injEq] at e1
   obtain ⟨rfl,-,rfl⟩:=e1
   obtain ⟨y,hy⟩:∃ y,ns[i]? = some y:=⟨_,List.getElem?_eq_getElem hlt⟩
   have x0:=hcl i y hy
   unfold maxLen at hc2
   have hii:(i:Int) < (ns.length:Int):=by omega
   clear hcl
   cases gk with
   | zero =>
    obtain rfl:i = m:=by omega
    have hb:Op.bytesLess y n = false:=HAT.out y hy
    by_cases he:y = n
    ·have h2:(y == n) = true:=by rw [beq_iff_eq];exact he
     rcases HK.out with ⟨-,h0⟩ | ⟨g5,c5',e5,hg5,hd1,hd2,hkc⟩
     ·rw [hlen,h0] at hlt;exact absurd hlt (by simp)
     simp only [Value.slice.injEq] at e5
     obtain ⟨rfl,-,rfl⟩:=e5
     obtain ⟨q,hq⟩:∃ q,ks[i]? = some q:=⟨_,List.getElem?_eq_getElem (by omega)⟩
     have x1:=hkc i q hq
     unfold maxLen at hd2
     have hik2:(i:Int) < (ks.length:Int):=by omega
     have HR:Hid (ns[i]? = some n ∧ ks[i]? = some q):=⟨by rw [hy,he],hq⟩
     clear he hkc hy hq HN HK HLO HAT
     go_wp2_with fail
     go_ret2
     exact ⟨.inl ⟨_,HR.out.1,HR.out.2,rfl⟩,rfl⟩
    ·have h2:(y == n) = false:=by rw [beq_eq_false_iff_ne];exact he
     have HR:Hid (ns[i]? ≠ some n):=by rw [Hid,hy];exact fun e=>he (Option.some.inj e)
     clear he hy HN HK HLO HAT
     go_wp2_with fail
     go_ret2
     exact ⟨.inr ⟨HR.out,rfl⟩,rfl⟩
   | succ gk =>
    have hb:Op.bytesLess y n = true:=HLO.out i y (by omega) hy
    clear hy
    go_wp2_with fail
    go_roundg gk
    case rel=>exact ⟨i + 1,by omega,by go_num,rfl⟩
    case measure=>omega
  ·obtain rfl:i = m:=by omega
   have him:i = ns.length:=by omega
   have d1:decide ((i:Int) < (ns.length:Int)) = false:=decide_eq_false (by omega)
   have HR:Hid (ns[i]? ≠ some n):=by rw [Hid,List.getElem?_eq_none (by omega)];exact fun e=>by cases e
   clear HN HK HLO HAT
   go_wp2_with fail
   go_ret2
   exact ⟨.inr ⟨HR.out,rfl⟩,rfl⟩
theorem numbered_any (t:Nat) (z:BN) (base:Nat) (r:Nat) (c f l i m bs:Value) (nx:Int) (w:World) (ht:w.heap[t]? = some (.cells #[pV r,c,f,l,i,m,.int .i64 nx,bs] 78 (0,0))) (id:Int) (up:Value) (hb:w.heap[z.b]? = some (bO id z.kind z.mode z.data z.nv z.kv up)) (hne:z.b ≠ t) :
  Calls Tryz.prog 62 #[pV t,pV z.b] w fun e w'=>e = .returned (pV z.b) ∧ (∃ nx',w'.heap[t]? = some (.cells #[pV r,c,f,l,i,m,.int .i64 nx',bs] 78 (0,0))) ∧ (∃ id',w'.heap[z.b]? = some (bO id' z.kind z.mode z.data z.nv z.kv up)) ∧ Turned [t,z.b] w w':=by
 have c6:w.cell? ⟨t,6,none⟩ = some (.int .i64 nx):=by rw [blk_cell ht];rfl
 have f6:w.frozen? ⟨t,6,none⟩ = false:=blk_free ht 6
 have c0:w.cell? ⟨z.b,0,none⟩ = some (.int .i64 id):=by rw [blk_cell hb];rfl
 have f0:w.frozen? ⟨z.b,0,none⟩ = false:=blk_free hb 0
 obtain ⟨q,hq⟩:∃ q:Int,wrap64 (nx + 1) = q:=⟨_,rfl⟩
 have HE:Hid ((∃ nx',((w.setCell ⟨t,6,none⟩ (.int .i64 q)).setCell ⟨z.b,0,none⟩ (.int .i64 q)).heap[t]? = some (.cells #[pV r,c,f,l,i,m,.int .i64 nx',bs] 78 (0,0))) ∧ (∃ id',((w.setCell ⟨t,6,none⟩ (.int .i64 q)).setCell ⟨z.b,0,none⟩ (.int .i64 q)).heap[z.b]? = some (bO id' z.kind z.mode z.data z.nv z.kv up)) ∧ Turned [t,z.b] w ((w.setCell ⟨t,6,none⟩ (.int .i64 q)).setCell ⟨z.b,0,none⟩ (.int .i64 q))):=by
  refine ⟨⟨q,?_⟩,⟨q,?_⟩,((Turned.refl _ _).setCell (by simp) _).setCell (by simp) _⟩
  ·rw [blk_other (Ne.symm hne)]
   exact blk_set ht 6 _
  ·exact blk_set ((blk_other hne _ _).trans hb) 0 _
 clear ht hb
 go_enter Tryz.func62,Tryz.ntmps62
 go_wp2_with fail
 go_ret
 exact ⟨rfl,HE.out⟩
end Go.Proofs.YtifhnpkapgaboaaGreat.doc
