/-
  Proved: plain facts on clean paths: a way of good names joined and cut again; what Clean gives is clean and stays so. No program is in sight.
  Proved: the document's tree as a list of nodes with their paths (plain): what is edited, what is counted. Conditions: as each theorem says. No program is in sight.
-/
import Derived.Test.YtifhnpkapgaboaaGreatPi6
set_option linter.unusedVariables false
set_option linter.unusedSimpArgs false
namespace Go.Proofs.YtifhnpkapgaboaaGreat.path
theorem good_no {p:List UInt8} (h:nameE p = 0):p ≠ [] ∧ (47:UInt8) ∉ p ∧ p ≠ [46] ∧ p ≠ [46,46] ∧ p.length ≤ 16:=by
 unfold nameE at h
 split at h
 ·cases h
 ·rename_i h0
  split at h
  ·cases h
  ·rename_i h1
   refine ⟨h0,fun e=>h1 (.inr (.inr (.inr (.inl e)))),fun e=>h1 (.inr (.inl e)),fun e=>h1 (.inr (.inr (.inl e))),?_⟩
   rcases Nat.lt_or_ge 16 p.length with e | e
   ·exact absurd (.inl e) h1
   ·exact e
theorem joinL_cons (p q:List UInt8) (ws:List (List UInt8)):joinL (p :: q :: ws) = p ++ 47 :: joinL (q :: ws):=by
 simp [joinL,List.intercalate,List.intersperse]
theorem joinL_one (p:List UInt8):joinL [p] = p:=by simp [joinL,List.intercalate]
theorem joinL_nil:joinL [] = []:=by simp [joinL,List.intercalate]
theorem joinL_snoc (ws:List (List UInt8)) (p:List UInt8) (h:ws ≠ []):joinL (ws ++ [p]) = joinL ws ++ 47 :: p:=by
 induction ws with
 | nil=>exact absurd rfl h
 | cons q qs ih =>
  cases qs with
  | nil=>rw [List.cons_append,List.nil_append,joinL_cons,joinL_one,joinL_one]
  | cons r rs=>rw [List.cons_append,List.cons_append,joinL_cons,← List.cons_append,ih (by simp),joinL_cons,List.append_assoc,List.cons_append]
theorem joinL_ne {ws:List (List UInt8)} (hg:∀ p ∈ ws,nameE p = 0) (h:ws ≠ []):joinL ws ≠ []:=by
 cases ws with
 | nil=>exact absurd rfl h
 | cons p ps =>
  have:=(good_no (hg p (List.mem_cons_self ..))).1
  cases ps with
  | nil=>rw [joinL_one];exact this
  | cons q qs=>rw [joinL_cons];simp [this]
theorem pieces_join (ws:List (List UInt8)) (hg:∀ p ∈ ws,nameE p = 0) (h:ws ≠ []):piecesL (joinL ws) = ws:=by
 induction ws with
 | nil=>exact absurd rfl h
 | cons p ps ih =>
  have hp:=(good_no (hg p (List.mem_cons_self ..))).2.1
  cases ps with
  | nil=>rw [joinL_one,pieces_no p hp]
  | cons q qs=>rw [joinL_cons,pieces_yes _ _ hp,ih (fun r hr=>hg r (List.mem_cons_of_mem _ hr)) (by simp)]
theorem parts_join (ws:List (List UInt8)) (hg:∀ p ∈ ws,nameE p = 0):partsL (joinL ws) = ws:=by
 by_cases h:ws = []
 ·subst h;simp [partsL,joinL_nil]
 ·rw [partsL,if_neg (joinL_ne hg h),pieces_join ws hg h]
theorem clean_join (ws:List (List UInt8)) (hg:∀ p ∈ ws,nameE p = 0) (h8:ws.length ≤ 8) (h140:(joinL ws).length ≤ 140):cleanB (joinL ws) = true:=by
 by_cases h:ws = []
 ·subst h;simp [cleanB,joinL_nil]
 ·unfold cleanB
  rw [pieces_join ws hg h,decide_eq_true hg,decide_eq_true h8,decide_eq_true h140]
  simp
theorem wayW_good (st ps ws:List (List UInt8)) (h:wayW st ps = some ws) (hst:∀ p ∈ st,nameE p = 0):∀ p ∈ ws,nameE p = 0:=by
 induction ps generalizing st with
 | nil=>simp [wayW] at h;subst h;exact hst
 | cons p ps ih =>
  simp only [wayW] at h
  split at h
  ·cases h
  ·rename_i v hv
   refine ih v h ?_
   unfold stepW at hv
   split at hv
   ·cases hv;exact hst
   ·split at hv
    ·cases hv;exact fun q hq=>hst q ((List.dropLast_sublist _).subset hq)
    ·split at hv
     ·cases hv
     ·rename_i hn
      cases hv
      intro q hq
      rcases List.mem_append.1 hq with hq | hq
      ·exact hst q hq
      ·rw [List.mem_singleton] at hq;rw [hq];exact Classical.not_not.1 hn
theorem start_good (cwd s:List UInt8) (h:cleanB cwd = true):∀ p ∈ startW cwd s,nameE p = 0:=by
 unfold startW
 split
 ·intro p hp;cases hp
 ·unfold partsL
  split
  ·intro p hp;cases hp
  ·rename_i hne
   simp only [cleanB,Bool.or_eq_true,decide_eq_true_eq,Bool.and_eq_true] at h
   exact (h.resolve_left hne).1.1
theorem clean_ok (cwd s:List UInt8) (h:(cleanR cwd s).2 = 0):cleanB cwd = true ∧ s ≠ [] ∧ s.length ≤ 560 ∧ ∃ ws,wayW (startW cwd s) (piecesL s) = some ws ∧ (cleanR cwd s).1 = joinL ws ∧ ws.length ≤ 8 ∧ (joinL ws).length ≤ 140 ∧ ∀ p ∈ ws,nameE p = 0:=by
 unfold cleanR at h ⊢
 split at h
 ·cases h
 ·rename_i h1
  split at h
  ·cases h
  ·rename_i h2
   split at h
   ·cases h
   ·rename_i h3
    have hc:cleanB cwd = true:=by simpa using h1
    refine ⟨hc,h2,by omega,?_⟩
    rw [if_neg h1,if_neg h2,if_neg h3]
    split at h
    ·cases h
    ·rename_i ws hw
     split at h
     ·cases h
     ·rename_i h4
      split at h
      ·cases h
      ·rename_i h5
       rw [hw]
       exact ⟨ws,rfl,by simp [h4,h5],by omega,by omega,wayW_good _ _ _ hw (start_good cwd s hc)⟩
theorem clean_mk (cwd s:List UInt8) (ws:List (List UInt8)) (h1:cleanB cwd = true) (h2:s ≠ []) (h3:s.length ≤ 560) (h4:wayW (startW cwd s) (piecesL s) = some ws) (h5:ws.length ≤ 8) (h6:(joinL ws).length ≤ 140):cleanR cwd s = (joinL ws,0):=by
 unfold cleanR
 rw [h1,if_neg (by simp),if_neg h2,if_neg (by omega),h4]
 simp only
 rw [if_neg (by omega),if_neg (by omega)]
theorem way_join (ws vs:List (List UInt8)) (hg:∀ p ∈ ws,nameE p = 0):wayW vs ws = some (vs ++ ws):=by
 induction ws generalizing vs with
 | nil=>simp [wayW]
 | cons p ps ih =>
  have hp:=good_no (hg p (List.mem_cons_self ..))
  have:stepW vs p = some (vs ++ [p]):=by
   unfold stepW
   rw [if_neg (fun h=>h.elim hp.1 hp.2.2.1),if_neg hp.2.2.2.1,if_neg (by simp [hg p (List.mem_cons_self ..)])]
  simp only [wayW,this]
  rw [ih _ (fun q hq=>hg q (List.mem_cons_of_mem _ hq))]
  simp
theorem clean_root (cwd:List UInt8) (ws:List (List UInt8)) (h1:cleanB cwd = true) (hg:∀ p ∈ ws,nameE p = 0) (h5:ws.length ≤ 8) (h6:(joinL ws).length ≤ 140):cleanR cwd (47 :: joinL ws) = (joinL ws,0):=by
 refine clean_mk cwd _ ws h1 (by simp) (by simp;omega) ?_ h5 h6
 have e:piecesL (47 :: joinL ws) = [] :: piecesL (joinL ws):=by rw [piecesL,if_pos rfl]
 have es:startW cwd (47 :: joinL ws) = []:=by simp [startW]
 have st:∀ v,stepW v [] = some v:=fun v=>by simp [stepW]
 rw [e,es]
 simp only [wayW,st]
 by_cases h:ws = []
 ·subst h;rw [joinL_nil];simp [piecesL,wayW,st]
 ·rw [pieces_join ws hg h,way_join ws [] hg,List.nil_append]
theorem pieces_snoc (l q:List UInt8) (hq:(47:UInt8) ∉ q):piecesL (l ++ 47 :: q) = piecesL l ++ [q]:=by
 rcases cut_at l with h | ⟨a,b,rfl,h⟩
 ·rw [pieces_yes l q h,pieces_no l h,pieces_no q hq];rfl
 ·have hb:b.length < (a ++ 47 :: b).length:=by simp;omega
  rw [List.append_assoc,List.cons_append,pieces_yes _ _ h,pieces_yes _ _ h,pieces_snoc b q hq,List.cons_append]
termination_by l.length
end Go.Proofs.YtifhnpkapgaboaaGreat.path
namespace Go.Proofs.YtifhnpkapgaboaaGreat.doc
open Go Go.RowKit
abbrev Nm:=List UInt8
structure BN where
 ps:List Nm
 b:Nat
 kind:Int
 mode:Int
 data:Nm
 nv:Value
 kv:Value
 names:List Nm
 kids:List Nat
def bl (a b:Nm):Bool:=Op.bytesLess a b
theorem bl_eq:∀ (x y:Nm),bl x y = decide (x < y)
 | [],[]=>by simp [bl,Op.bytesLess]
 | _ :: _,[]=>by simp [bl,Op.bytesLess]
 | [],_ :: _=>by simp [bl,Op.bytesLess]
 | a :: x,b :: y=>by
  have ih:=bl_eq x y
  unfold bl at ih ⊢
  rw [Op.bytesLess,ih]
  simp only [List.cons_lt_cons_iff]
  by_cases h1:a < b <;> by_cases h2:a = b <;> by_cases h3:x < y <;> simp [h1,h2,h3]
theorem bl_irrefl (a:Nm):bl a a = false:=by rw [bl_eq];exact decide_eq_false (List.lt_irrefl a)
theorem bl_trans {a b c:Nm} (h:bl a b = true) (k:bl b c = true):bl a c = true:=by
 rw [bl_eq] at *
 exact decide_eq_true (List.lt_trans (of_decide_eq_true h) (of_decide_eq_true k))
theorem bl_tri (a b:Nm):bl a b = true ∨ a = b ∨ bl b a = true:=by
 rw [bl_eq,bl_eq]
 by_cases h:a < b
 ·exact .inl (decide_eq_true h)
 ·by_cases k:b < a
  ·exact .inr (.inr (decide_eq_true k))
  ·exact .inr (.inl (List.le_antisymm k h))
theorem bl_asymm {a b:Nm} (h:bl a b = true):bl b a = false:=by
 cases k:bl b a with
 | false=>rfl
 | true=>have:=bl_trans h k;rw [bl_irrefl] at this;cases this
def kidIx (ns:List Nm) (n:Nm):Nat:=(ns.takeWhile fun x=>bl x n).length
def Srt (ns:List Nm):Prop:=ns.Pairwise fun a b=>bl a b = true
theorem kidIx_le (ns:List Nm) (n:Nm):kidIx ns n ≤ ns.length:=(List.takeWhile_sublist _).length_le
theorem kidIx_low (ns:List Nm) (n:Nm) (j:Nat) (x:Nm) (hj:j < kidIx ns n) (hx:ns[j]? = some x):bl x n = true:=by
 unfold kidIx at hj
 induction ns generalizing j with
 | nil=>simp at hx
 | cons a r ih =>
  rw [List.takeWhile_cons] at hj
  by_cases ha:bl a n = true
  ·rw [if_pos ha] at hj
   cases j with
   | zero=>simp at hx;rw [← hx];exact ha
   | succ j=>exact ih j (by simpa using hj) (by simpa using hx)
  ·rw [if_neg ha] at hj;simp at hj
theorem kidIx_at (ns:List Nm) (n x:Nm) (hx:ns[kidIx ns n]? = some x):bl x n = false:=by
 unfold kidIx at hx
 induction ns with
 | nil=>simp at hx
 | cons a r ih =>
  rw [List.takeWhile_cons] at hx
  by_cases ha:bl a n = true
  ·rw [if_pos ha] at hx
   exact ih (by simpa using hx)
  ·rw [if_neg ha] at hx
   simp at hx
   rw [← hx];simpa using ha
theorem Srt.at {ns:List Nm} (h:Srt ns) {i:Nat} {n:Nm} (hn:ns[i]? = some n):kidIx ns n = i:=by
 obtain ⟨hi,he⟩:=List.getElem?_eq_some_iff.1 hn
 have hp:=List.pairwise_iff_getElem.1 h
 rcases Nat.lt_trichotomy (kidIx ns n) i with hk | hk | hk
 ·have hlt:kidIx ns n < ns.length:=by omega
  have h1:=hp (kidIx ns n) i hlt hi hk
  have h2:=kidIx_at ns n (ns[kidIx ns n]) (List.getElem?_eq_getElem hlt)
  rw [he,h2] at h1;cases h1
 ·exact hk
 ·have:=kidIx_low ns n i n hk hn
  rw [bl_irrefl] at this;cases this
theorem Srt.mem {ns:List Nm} (h:Srt ns) (n:Nm):n ∈ ns ↔ ns[kidIx ns n]? = some n:=by
 refine ⟨fun hm => ?_,fun he=>List.mem_of_getElem? he⟩
 obtain ⟨i,hi⟩:=List.getElem?_of_mem hm
 rw [h.at hi];exact hi
theorem Srt.nodup {ns:List Nm} (h:Srt ns):ns.Nodup:=h.imp fun hab e=>by rw [e,bl_irrefl] at hab;cases hab
def insN (ns:List Nm) (n:Nm):List Nm:=ns.take (kidIx ns n) ++ n :: ns.drop (kidIx ns n)
theorem mem_insN (ns:List Nm) (n x:Nm):x ∈ insN ns n ↔ x = n ∨ x ∈ ns:=by
 unfold insN
 conv=>rhs;rw [← List.take_append_drop (kidIx ns n) ns]
 simp only [List.mem_append,List.mem_cons]
 constructor
 ·rintro (h | h | h) <;> simp [h]
 ·rintro (h | h | h) <;> simp [h]
theorem Srt.ins {ns:List Nm} (h:Srt ns) (n:Nm) (hn:n ∉ ns):Srt (insN ns n):=by
 unfold insN Srt
 have hp:=List.pairwise_iff_getElem.1 h
 have hlo:∀ x ∈ ns.take (kidIx ns n),bl x n = true:=fun x hx=>by
  obtain ⟨j,hj⟩:=List.getElem?_of_mem hx
  have hjl:=(List.getElem?_eq_some_iff.1 hj).1
  rw [List.length_take] at hjl
  rw [List.getElem?_take_of_lt (by omega)] at hj
  exact kidIx_low ns n j x (by omega) hj
 have hhi:∀ x ∈ ns.drop (kidIx ns n),bl n x = true:=fun x hx=>by
  obtain ⟨j,hj⟩:=List.getElem?_of_mem hx
  rw [List.getElem?_drop] at hj
  have hxm:x ∈ ns:=List.mem_of_getElem? hj
  have hne:n ≠ x:=fun e=>hn (e ▸ hxm)
  have hjl:=(List.getElem?_eq_some_iff.1 hj).1
  have h0:bl ns[kidIx ns n] n = false:=kidIx_at ns n _ (List.getElem?_eq_getElem (by omega))
  have hn0:n ≠ ns[kidIx ns n]:=fun e=>hn (e ▸ List.getElem_mem _)
  have h1:bl n ns[kidIx ns n] = true:=by
   rcases bl_tri n ns[kidIx ns n] with a | a | a
   ·exact a
   ·exact absurd a hn0
   ·rw [h0] at a;cases a
  cases j with
  | zero =>
   rw [Nat.add_zero,List.getElem?_eq_getElem (by omega)] at hj
   rw [← Option.some.inj hj];exact h1
  | succ j =>
   have hx2:=(List.getElem?_eq_some_iff.1 hj).2
   have:=hp (kidIx ns n) (kidIx ns n + (j + 1)) (by omega) hjl (by omega)
   rw [hx2] at this
   exact bl_trans h1 this
 refine List.pairwise_append.2 ⟨h.sublist (List.take_sublist _ _),List.pairwise_cons.2 ⟨hhi,h.sublist (List.drop_sublist _ _)⟩,fun a ha b hb => ?_⟩
 rcases List.mem_cons.1 hb with rfl | hb
 ·exact hlo a ha
 ·exact bl_trans (hlo a ha) (hhi b hb)
theorem Srt.del {ns:List Nm} (h:Srt ns) (i:Nat):Srt (ns.eraseIdx i):=h.sublist (List.eraseIdx_sublist _ _)
/-! the list of nodes -/
abbrev DM:=List BN
def findM (M:DM) (ps:List Nm):Option BN:=M.find? fun x=>decide (x.ps = ps)
def atB (ps qs:List Nm):Bool:=ps.isPrefixOf qs
def cutM (M:DM) (ps:List Nm):DM:=M.filter fun y => !atB ps y.ps
def modM (M:DM) (ps:List Nm) (f:BN → BN):DM:=M.map fun x=>if x.ps = ps then f x else x
theorem atB_iff (ps qs:List Nm):atB ps qs = true ↔ ps <+: qs:=List.isPrefixOf_iff_prefix
structure WF (M:DM):Prop where
 keys:(M.map (·.ps)).Nodup
 root:∃ r rest,M = r :: rest ∧ r.ps = [] ∧ r.kind = 1
 srt:∀ x ∈ M,Srt x.names
 len:∀ x ∈ M,x.names.length = x.kids.length
 down:∀ x ∈ M,∀ (i:Nat) (n:Nm) (c:Nat),x.names[i]? = some n → x.kids[i]? = some c → ∃ y ∈ M,y.ps = x.ps ++ [n] ∧ y.b = c
 up:∀ y ∈ M,∀ (qs:List Nm) (n:Nm),y.ps = qs ++ [n] → ∃ x ∈ M,x.ps = qs ∧ n ∈ x.names
theorem WF.one {M:DM} (h:WF M) {x y:BN} (hx:x ∈ M) (hy:y ∈ M) (e:x.ps = y.ps):x = y:=by
 have hk:=h.keys
 clear h
 induction M with
 | nil=>cases hx
 | cons a r ih =>
  rw [List.map_cons,List.nodup_cons] at hk
  rcases List.mem_cons.1 hx with hx2 | hx2
  ·rcases List.mem_cons.1 hy with hy2 | hy2
   ·rw [hx2,hy2]
   ·exact absurd (List.mem_map.2 ⟨y,hy2,by rw [← e,hx2]⟩) hk.1
  ·rcases List.mem_cons.1 hy with hy2 | hy2
   ·exact absurd (List.mem_map.2 ⟨x,hx2,by rw [e,hy2]⟩) hk.1
   ·exact ih hx2 hy2 hk.2
theorem findM_some {M:DM} {ps:List Nm} {x:BN} (h:findM M ps = some x):x ∈ M ∧ x.ps = ps:=
 ⟨List.mem_of_find?_eq_some h,of_decide_eq_true (List.find?_some (p:=fun x:BN=>decide (x.ps = ps)) h)⟩
theorem findM_none {M:DM} {ps:List Nm} (h:findM M ps = none):∀ x ∈ M,x.ps ≠ ps:=fun x hx e=>by
 have:=List.find?_eq_none.1 h x hx
 simp [e] at this
theorem WF.find {M:DM} (h:WF M) {x:BN} (hx:x ∈ M):findM M x.ps = some x:=by
 cases hf:findM M x.ps with
 | none=>exact absurd rfl (findM_none hf x hx)
 | some y=>rw [h.one (findM_some hf).1 hx (findM_some hf).2]
theorem WF.kid {M:DM} (h:WF M) {x:BN} (hx:x ∈ M) (n:Nm):(n ∈ x.names ∧ ∃ y,findM M (x.ps ++ [n]) = some y ∧ x.kids[kidIx x.names n]? = some y.b) ∨ (n ∉ x.names ∧ findM M (x.ps ++ [n]) = none):=by
 by_cases hn:n ∈ x.names
 ·refine .inl ⟨hn,?_⟩
  have h1:=((h.srt x hx).mem n).1 hn
  have hl:=(List.getElem?_eq_some_iff.1 h1).1
  rw [h.len x hx] at hl
  obtain ⟨y,hy,he,hb⟩:=h.down x hx _ n _ h1 (List.getElem?_eq_getElem hl)
  refine ⟨y,?_,?_⟩
  ·rw [← he];exact h.find hy
  ·rw [hb];exact List.getElem?_eq_getElem hl
 ·refine .inr ⟨hn,?_⟩
  cases hf:findM M (x.ps ++ [n]) with
  | none=>rfl
  | some y =>
   obtain ⟨hy,he⟩:=findM_some hf
   obtain ⟨z,hz,hze,hzn⟩:=h.up y hy x.ps n he
   rw [h.one hz hx hze] at hzn
   exact absurd hzn hn
theorem mem_cut {M:DM} {ps:List Nm} {x:BN}:x ∈ cutM M ps ↔ x ∈ M ∧ ¬ ps <+: x.ps:=by
 unfold cutM
 rw [List.mem_filter,Bool.not_eq_true',← Bool.not_eq_true,atB_iff]
theorem mem_mod {M:DM} {ps:List Nm} {f:BN → BN} {y:BN}:y ∈ modM M ps f ↔ ∃ x ∈ M,(if x.ps = ps then f x else x) = y:=by unfold modM;exact List.mem_map
theorem mod_keys (M:DM) (ps:List Nm) (f:BN → BN) (hf:∀ x,(f x).ps = x.ps):(modM M ps f).map (·.ps) = M.map (·.ps):=by
 unfold modM
 rw [List.map_map]
 refine List.map_congr_left fun x _ => ?_
 show (if x.ps = ps then f x else x).ps = x.ps
 split
 ·exact hf x
 ·rfl
theorem not_pre (ps:List Nm) (n:Nm):¬ (ps ++ [n]) <+: ps:=fun h=>by
 have:=h.length_le
 rw [List.length_append] at this
 simp at this
 try omega
theorem WF.edit {M:DM} (h:WF M) {x0:BN} (hx:x0 ∈ M) (n:Nm) (f:BN → BN) (zs:DM) (hf:∀ x,(f x).ps = x.ps ∧ (f x).b = x.b ∧ (f x).kind = x.kind)
  (hs:Srt (f x0).names) (hl:(f x0).names.length = (f x0).kids.length)
  (hd:∀ (i:Nat) (m:Nm) (c:Nat),(f x0).names[i]? = some m → (f x0).kids[i]? = some c → (m ≠ n ∧ ∃ j:Nat,x0.names[j]? = some m ∧ x0.kids[j]? = some c) ∨ (∃ z ∈ zs,m = n ∧ z.b = c))
  (hu:∀ m ∈ x0.names,m ≠ n → m ∈ (f x0).names)
  (hz:∀ z ∈ zs,z.ps = x0.ps ++ [n] ∧ z.names = [] ∧ z.kids = [] ∧ n ∈ (f x0).names) (hz1:zs.length ≤ 1) :
  WF (modM (cutM M (x0.ps ++ [n])) x0.ps f ++ zs):=by
 have h0:x0 ∈ cutM M (x0.ps ++ [n]):=mem_cut.2 ⟨hx,not_pre _ _⟩
 have hin:∀ y ∈ M,¬ (x0.ps ++ [n]) <+: y.ps → ∃ y' ∈ modM (cutM M (x0.ps ++ [n])) x0.ps f ++ zs,y'.ps = y.ps ∧ y'.b = y.b:=fun y hy hp=>by
  refine ⟨_,List.mem_append_left _ (mem_mod.2 ⟨y,mem_cut.2 ⟨hy,hp⟩,rfl⟩),?_⟩
  split
  ·exact ⟨(hf y).1,(hf y).2.1⟩
  ·exact ⟨rfl,rfl⟩
 have hf0:f x0 ∈ modM (cutM M (x0.ps ++ [n])) x0.ps f ++ zs:=List.mem_append_left _ (mem_mod.2 ⟨x0,h0,if_pos rfl⟩)
 refine ⟨?_,?_,?_,?_,?_,?_⟩
 ·rw [List.map_append,mod_keys _ _ _ fun x=>(hf x).1]
  refine List.nodup_append.2 ⟨h.keys.sublist (List.filter_sublist.map _),?_,?_⟩
  ·match zs,hz1 with
   | [],_=>exact List.nodup_nil
   | [z],_=>simp
  ·intro a ha b hb e
   obtain ⟨x,hxc,rfl⟩:=List.mem_map.1 ha
   obtain ⟨z,hzz,rfl⟩:=List.mem_map.1 hb
   refine (mem_cut.1 hxc).2 ?_
   rw [e,(hz z hzz).1]
   exact List.prefix_refl _
 ·obtain ⟨r,rest,rfl,hr,hk⟩:=h.root
  have:cutM (r :: rest) (x0.ps ++ [n]) = r :: cutM rest (x0.ps ++ [n]):=by
   unfold cutM
   rw [List.filter_cons_of_pos]
   rw [Bool.not_eq_true',← Bool.not_eq_true,atB_iff,hr]
   intro hp
   have:=hp.length_le
   simp at this
  rw [this]
  refine ⟨_,_,rfl,?_,?_⟩
  ·show (if r.ps = x0.ps then f r else r).ps = []
   split
   ·rw [(hf r).1];exact hr
   ·exact hr
  ·show (if r.ps = x0.ps then f r else r).kind = 1
   split
   ·rw [(hf r).2.2];exact hk
   ·exact hk
 ·intro y hy
  rcases List.mem_append.1 hy with hy | hy
  ·obtain ⟨x,hxc,rfl⟩:=mem_mod.1 hy
   split
   ·rename_i e
    rw [h.one (mem_cut.1 hxc).1 hx e];exact hs
   ·exact h.srt x (mem_cut.1 hxc).1
  ·rw [(hz y hy).2.1];exact List.Pairwise.nil
 ·intro y hy
  rcases List.mem_append.1 hy with hy | hy
  ·obtain ⟨x,hxc,rfl⟩:=mem_mod.1 hy
   split
   ·rename_i e
    rw [h.one (mem_cut.1 hxc).1 hx e];exact hl
   ·exact h.len x (mem_cut.1 hxc).1
  ·rw [(hz y hy).2.1,(hz y hy).2.2.1];rfl
 ·intro y hy i m c h1 h2
  rcases List.mem_append.1 hy with hy | hy
  ·obtain ⟨x,hxc,rfl⟩:=mem_mod.1 hy
   obtain ⟨hxM,hxp⟩:=mem_cut.1 hxc
   by_cases e:x.ps = x0.ps
   ·obtain rfl:=h.one hxM hx e
    rw [if_pos rfl] at h1 h2 ⊢
    rcases hd i m c h1 h2 with ⟨hm,j,g1,g2⟩ | ⟨z,hzz,rfl,rfl⟩
    ·obtain ⟨y,hyM,hyp,hyb⟩:=h.down x hxM j m c g1 g2
     obtain ⟨y',hy',e1,e2⟩:=hin y hyM (by
      rw [hyp]
      intro hp
      have:=List.prefix_append_right_inj x.ps |>.1 hp
      have:=List.cons_prefix_cons.1 this
      exact hm this.1.symm)
     exact ⟨y',hy',by rw [e1,hyp,(hf x).1],by rw [e2,hyb]⟩
    ·exact ⟨z,List.mem_append_right _ hzz,by rw [(hz z hzz).1,(hf x).1],rfl⟩
   ·rw [if_neg e] at h1 h2 ⊢
    obtain ⟨y,hyM,hyp,hyb⟩:=h.down x hxM i m c h1 h2
    obtain ⟨y',hy',e1,e2⟩:=hin y hyM (by
     rw [hyp]
     intro hp
     rcases List.prefix_concat_iff.1 hp with hp | hp
     ·exact e (List.append_inj_left' hp.symm rfl)
     ·exact hxp hp)
    exact ⟨y',hy',by rw [e1,hyp],by rw [e2,hyb]⟩
  ·rw [(hz y hy).2.1] at h1;simp at h1
 ·intro y hy qs m he
  rcases List.mem_append.1 hy with hy | hy
  ·obtain ⟨x,hxc,hxe⟩:=mem_mod.1 hy
   obtain ⟨hxM,hxp⟩:=mem_cut.1 hxc
   have hps:x.ps = qs ++ [m]:=by
    rw [← he,← hxe]
    split
    ·exact (hf x).1.symm
    ·rfl
   obtain ⟨u,huM,hup,hun⟩:=h.up x hxM qs m hps
   by_cases e:u.ps = x0.ps
   ·obtain rfl:=h.one huM hx e
    refine ⟨_,hf0,by rw [(hf u).1,hup],hu m hun ?_⟩
    rintro rfl
    refine hxp ?_
    rw [hps,hup]
    exact List.prefix_refl _
   ·refine ⟨u,List.mem_append_left _ (mem_mod.2 ⟨u,mem_cut.2 ⟨huM,fun hp=>hxp ?_⟩,if_neg e⟩),hup,hun⟩
    rw [hps,← hup]
    exact hp.trans (List.prefix_append _ _)
  ·obtain ⟨h1,h2,h3,h4⟩:=hz y hy
   rw [h1] at he
   obtain ⟨e1,e2⟩:=List.append_inj' he rfl
   cases e2
   exact ⟨_,hf0,by rw [(hf x0).1,e1],h4⟩
/-! how many lie below -/
def belB (ps qs:List Nm):Bool:=atB ps qs && decide (ps ≠ qs)
def cnt (M:DM) (ps:List Nm):Nat:=M.countP fun y=>belB ps y.ps
theorem countP_or {α:Type} (p q:α → Bool) (l:List α) (h:∀ x ∈ l,p x = true → q x = false):l.countP (fun x=>p x || q x) = l.countP p + l.countP q:=by
 induction l with
 | nil=>rfl
 | cons a r ih =>
  rw [List.countP_cons,List.countP_cons,List.countP_cons,ih fun x hx=>h x (List.mem_cons_of_mem _ hx)]
  have:=h a List.mem_cons_self
  cases hp:p a <;> cases hq:q a <;> simp_all <;> omega
theorem countP_any {α:Type} (P:Nm → α → Bool) (l:List α) (ns:List Nm) (hn:ns.Nodup) (h:∀ x ∈ l,∀ n m,P n x = true → P m x = true → n = m):l.countP (fun x=>ns.any fun n=>P n x) = (ns.map fun n=>l.countP (P n)).sum:=by
 induction ns with
 | nil=>simp
 | cons a r ih =>
  rw [List.nodup_cons] at hn
  have e:(fun x=>(a :: r).any fun n=>P n x) = fun x=>P a x || r.any fun n=>P n x:=by funext x;rw [List.any_cons]
  rw [e,countP_or,ih hn.2,List.map_cons,List.sum_cons]
  intro x hx ha
  cases hr:r.any fun n=>P n x with
  | false=>rfl
  | true =>
   obtain ⟨m,hm,hp⟩:=List.any_eq_true.1 hr
   rw [h x hx a m ha hp] at hn
   exact absurd hm hn.1
theorem WF.count_at {M:DM} (h:WF M) {y:BN} (hy:y ∈ M):M.countP (fun z=>atB y.ps z.ps) = 1 + cnt M y.ps:=by
 have e:(fun z:BN=>atB y.ps z.ps) = fun z=>decide (z.ps = y.ps) || belB y.ps z.ps:=by
  funext z
  unfold belB
  by_cases hz:z.ps = y.ps
  ·rw [hz]
   have:atB y.ps y.ps = true:=(atB_iff _ _).2 (List.prefix_refl _)
   simp [this]
  ·simp [hz,Ne.symm hz]
 rw [e,countP_or]
 ·congr 1
  have hk:=h.keys
  have h1:M.countP (fun z=>decide (z.ps = y.ps)) = (M.map (·.ps)).count y.ps:=by
   rw [List.count_eq_countP,List.countP_map]
   refine List.countP_congr fun z _ => ?_
   simp
  rw [h1]
  exact (List.Nodup.count hk).trans (if_pos (List.mem_map.2 ⟨y,hy,rfl⟩))
 ·intro z _ hz
  unfold belB
  rw [of_decide_eq_true hz]
  simp
theorem WF.count {M:DM} (h:WF M) {x:BN} (hx:x ∈ M):cnt M x.ps = (x.names.map fun n=>1 + cnt M (x.ps ++ [n])).sum:=by
 have e:M.countP (fun y=>belB x.ps y.ps) = M.countP (fun y=>x.names.any fun n=>atB (x.ps ++ [n]) y.ps):=by
  refine List.countP_congr fun y hy => ?_
  rw [List.any_eq_true]
  unfold belB
  rw [Bool.and_eq_true,atB_iff,decide_eq_true_iff]
  constructor
  ·rintro ⟨⟨t,ht⟩,hne⟩
   have htn:t ≠ []:=fun e=>hne (by rw [← ht,e,List.append_nil])
   -- the first name behind
   obtain ⟨n,t',rfl⟩:=List.exists_cons_of_ne_nil htn
   have key:∀ (k:Nat) (u:List Nm) (z:BN),u.length = k → z ∈ M → z.ps = x.ps ++ n :: u → n ∈ x.names:=by
    intro k
    induction k with
    | zero =>
     intro u z hu hz hzp
     obtain rfl:=List.length_eq_zero_iff.1 hu
     obtain ⟨v,hv,hvp,hvn⟩:=h.up z hz x.ps n hzp
     rwa [h.one hv hx hvp] at hvn
    | succ k ih =>
     intro u z hu hz hzp
     have hun:u ≠ []:=fun e=>by rw [e] at hu;simp at hu
     obtain ⟨v,hv,hvp,hvn⟩:=h.up z hz (x.ps ++ n :: u.dropLast) (u.getLast hun) (by rw [hzp];simp [List.dropLast_concat_getLast])
     exact ih u.dropLast v (by simp [hu]) hv hvp
   exact ⟨n,key _ t' y rfl hy ht.symm,(atB_iff _ _).2 ⟨t',by rw [← ht];simp⟩⟩
  ·rintro ⟨n,hn,hp⟩
   rw [atB_iff] at hp
   refine ⟨(List.prefix_append _ _).trans hp,fun e=>not_pre x.ps n ?_⟩
   rw [← e] at hp
   exact hp
 show M.countP (fun y=>belB x.ps y.ps) = _
 rw [e,countP_any (fun n (y:BN)=>atB (x.ps ++ [n]) y.ps) M x.names (h.srt x hx).nodup]
 ·congr 1
  refine List.map_congr_left fun n hn => ?_
  rcases h.kid hx n with ⟨_,y,hy,_⟩ | ⟨hno,_⟩
  ·obtain ⟨hyM,hyp⟩:=findM_some hy
   rw [← hyp]
   exact h.count_at hyM
  ·exact absurd hn hno
 ·intro y _ n m h1 h2
  rw [atB_iff] at h1 h2
  obtain ⟨t1,e1⟩:=h1
  obtain ⟨t2,e2⟩:=h2
  rw [← e2] at e1
  simp only [List.append_assoc,List.append_cancel_left_eq] at e1
  exact (List.cons.inj e1).1
theorem cnt_lt {M:DM} (h:WF M) {x:BN} (hx:x ∈ M) {n:Nm} (hn:n ∈ x.names):cnt M (x.ps ++ [n]) < cnt M x.ps:=by
 rw [h.count hx]
 have:∀ ns:List Nm,n ∈ ns → cnt M (x.ps ++ [n]) < (ns.map fun n=>1 + cnt M (x.ps ++ [n])).sum:=by
  intro ns
  induction ns with
  | nil=>intro h;cases h
  | cons a r ih =>
   intro hm
   rw [List.map_cons,List.sum_cons]
   rcases List.mem_cons.1 hm with rfl | hm
   ·omega
   ·have:=ih hm;omega
 exact this _ hn
theorem WF.count_root {M:DM} (h:WF M):cnt M [] + 1 = M.length:=by
 obtain ⟨r,rest,he,hr,-⟩:=h.root
 have h1:=h.count_at (y:=r) (by rw [he];exact List.mem_cons_self)
 rw [hr] at h1
 have:M.countP (fun z=>atB [] z.ps) = M.length:=by
  rw [List.countP_eq_length]
  intro z _
  exact (atB_iff _ _).2 (List.nil_prefix)
 omega
end Go.Proofs.YtifhnpkapgaboaaGreat.doc
