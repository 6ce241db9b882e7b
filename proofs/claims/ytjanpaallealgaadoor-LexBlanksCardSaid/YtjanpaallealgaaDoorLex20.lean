/-
  Proved: where a token ends (the law's own function end); what stands at each round of LexBlanks (plain). Conditions: as each theorem says.
-/
import Derived.Test.YtjanpaallealgaaDoorLex11
import Derived.Test.YtjanpaallealgaaDoorLexBlP
namespace Go.Proofs.YtjanpaallealgaaDoor.lex
open Go.RowKit
open heap
open flt (isD ofT str_size)
open num (list_len drop_cons)
set_option linter.unusedVariables false
set_option maxRecDepth 100000

theorem and255 (z : Int) : ∃ p : Nat, p ≤ 255 ∧ bits .and .i64 z 255 = (p : Int) := by
  refine ⟨(BitVec.ofInt 64 z &&& BitVec.ofInt 64 255).toNat, ?_, ?_⟩
  · rw [BitVec.toNat_and]
    have e : (BitVec.ofInt 64 255).toNat = 255 := by decide
    rw [e]
    exact Nat.and_le_right
  · have h : (BitVec.ofInt 64 z &&& BitVec.ofInt 64 255).toNat ≤ 255 := by
      rw [BitVec.toNat_and]
      have e : (BitVec.ofInt 64 255).toNat = 255 := by decide
      rw [e]
      exact Nat.and_le_right
    show IntKind.i64.wrap (((BitVec.ofInt 64 z &&& BitVec.ofInt 64 255).toNat : Nat) : Int) = _
    rw [IntKind.wrap_i64]
    omega
theorem tok_text {t : List UInt8} {kd : Int} {u : List UInt8} {x n : Nat} (h0 : t ≠ []) (h : tok t = .ok (kd, u, x, n)) (hk : kd ≠ 3) : u.length = n := by
  have hl := tok_len h0 h
  unfold tok at h
  repeat' split at h
  all_goals first
    | (cases h; done)
    | (cases h; exact absurd rfl hk)
    | (cases h; rfl)
    | (cases h; rw [List.length_take]; exact Nat.min_eq_left hl.2)
theorem tok_quote {t : List UInt8} {u : List UInt8} {x n : Nat} (h : tok t = .ok (3, u, x, n)) : ∃ y, qtS false (t.drop 1) = some (y, n - 1) ∧ 1 ≤ n := by
  unfold tok at h
  repeat' split at h
  all_goals first
    | (cases h; done)
    | (rename_i y hy _; cases h; exact ⟨y.1, hy, by omega⟩)
    | (cases h; rename_i y hy _; exact ⟨y.1, hy, by omega⟩)
theorem qt_cases {s : ByteArray} {p m : Nat} {y : List UInt8} (h : qtS false (s.data.toList.drop p) = some (y, m)) : ∃ hp : p < s.size, (s[p] = 34 ∧ m = 1) ∨
    (s[p] ≠ 34 ∧ s[p] = 92 ∧ p + 1 < s.size ∧ 2 ≤ m ∧ ∃ y', qtS false (s.data.toList.drop (p + 2)) = some (y', m - 2)) ∨ (s[p] ≠ 34 ∧ s[p] ≠ 92 ∧ 1 ≤ m ∧ ∃ y', qtS false (s.data.toList.drop (p + 1)) = some (y', m - 1)) := by
  have hp : p < s.size := by
    rcases Nat.lt_or_ge p s.size with h1 | h1
    · exact h1
    · rw [List.drop_eq_nil_of_le (by rw [list_len]; exact h1)] at h; simp [qtS] at h
  refine ⟨hp, ?_⟩
  rw [drop_cons s p hp, qtS] at h
  by_cases h1 : s[p] = 34
  · rw [if_pos h1] at h
    simp at h
    exact .inl ⟨h1, h.2.symm⟩
  · rw [if_neg h1] at h
    by_cases h2 : s[p].toNat < 32
    · rw [if_pos h2] at h; cases h
    · rw [if_neg h2] at h
      by_cases h3 : s[p] = 92
      · rw [if_pos h3] at h
        obtain ⟨z, hz, he⟩ := Option.map_eq_some_iff.1 h
        have hp1 : p + 1 < s.size := by
          rcases Nat.lt_or_ge (p + 1) s.size with h4 | h4
          · exact h4
          · rw [List.drop_eq_nil_of_le (by rw [list_len]; exact h4)] at hz; simp [qtS] at hz
        rw [drop_cons s (p + 1) hp1, qtS] at hz
        cases hx : escB s[p + 1] with
        | none => rw [hx] at hz; cases hz
        | some e =>
          rw [hx] at hz
          obtain ⟨q, hq, rfl⟩ := Option.map_eq_some_iff.1 hz
          simp only [Prod.mk.injEq] at he
          refine .inr (.inl ⟨h1, h3, hp1, by omega, q.1, ?_⟩)
          rw [hq]
          congr 1
          exact Prod.ext rfl (by simp only; omega)
      · rw [if_neg h3] at h
        obtain ⟨z, hz, he⟩ := Option.map_eq_some_iff.1 h
        simp only [Prod.mk.injEq] at he
        refine .inr (.inr ⟨h1, h3, by omega, z.1, ?_⟩)
        rw [hz]
        congr 1
        exact Prod.ext rfl (by simp only; omega)
set_option maxHeartbeats 4000000 in
theorem end_any (s : ByteArray) (B : Nat) (v : Value) (ts : List Tk) (i : Nat) (kd : Int) (u : List UInt8) (x k n : Nat) (w : World) (h : TRow w B v ts) (hi : ts[i]? = some ⟨kd, u, x, k⟩) (h0 : s.data.toList.drop k ≠ []) (ht : tok (s.data.toList.drop k) = .ok (kd, u, x, n)) (hk : k + n ≤ s.size) (hs : s.size ≤ 1000000000) (hn : ts.length ≤ 100000) :
    Calls Tryd.prog 8 #[.string s, v, .int .i64 i] w fun e w' => e = .returned (.int .i64 ((k + n : Nat) : Int)) ∧ Below w.heap.size w w' := by
  have hlt : i < ts.length := (List.getElem?_eq_some_iff.1 hi).1
  have hkI : (i : Int) < (ts.length : Int) := by omega
  rcases h.cells with ⟨-, hz⟩ | ⟨g, c, rfl, hg, -, hc, hc', hcell⟩
  · rw [hz] at hlt; simp at hlt
  · obtain ⟨x0, x1, x2, x3⟩ := hcell i _ hi
    simp only at x0 x1 x2 x3
    unfold maxLen at hc'
    clear hcell h hi
    have zu := str_size u
    by_cases h3 : kd = 3
    · subst h3
      obtain ⟨y, hy, hn1⟩ := tok_quote ht
      rw [List.drop_drop] at hy
      have HY := Lib.hid hy
      clear hy ht h0
      go_enter Tryd.func8, Tryd.ntmps8
      go_wp2_with fail
      go_loop [7] (fun vi => ∃ (p m : Nat), vi = .int .i64 p ∧ p + m = k + n ∧ Hid (∃ y, qtS false (s.data.toList.drop p) = some (y, m))) (fun vi => k + n - (intOf vi).toNat)
      case atStart => exact ⟨k + 1, n - 1, by go_num, by omega, ⟨y, HY.out⟩⟩
      case round =>
        obtain ⟨p, m, rfl, hpm, HP⟩ := hrel
        obtain ⟨y, hy⟩ := HP.out
        obtain ⟨hp, ⟨e34, em⟩ | ⟨n34, e92, hp1, hm2, y', hy'⟩ | ⟨n34, n92, hm1, y', hy'⟩⟩ := qt_cases hy
        · have b34 : ((s[p].toNat : Int) != 34) = false := by rw [e34]; rfl
          clear hy e34
          go_wp2_with fail
          go_ret
          exact ⟨ret_i (by omega), Below.refl _ _⟩
        · have b34 : ((s[p].toNat : Int) != 34) = true := by rw [e92]; rfl
          have b92 : ((s[p].toNat : Int) == 92) = true := by rw [e92]; rfl
          have HN : Hid (∃ y, qtS false (s.data.toList.drop (p + 2)) = some (y, m - 2)) := ⟨_, hy'⟩
          clear hy hy' e92 n34
          go_wp2_with fail
          go_round
          case rel => exact ⟨p + 2, m - 2, by go_num, by omega, HN⟩
          case measure => simp [intOf]; omega
        · have b34 : ((s[p].toNat : Int) != 34) = true := by
            rw [bne_iff_ne]; intro e; exact n34 (UInt8.toNat_inj.1 (by show s[p].toNat = 34; omega))
          have b92 : ((s[p].toNat : Int) == 92) = false := by
            rw [beq_eq_false_iff_ne]; intro e; exact n92 (UInt8.toNat_inj.1 (by show s[p].toNat = 92; omega))
          have HN : Hid (∃ y, qtS false (s.data.toList.drop (p + 1)) = some (y, m - 1)) := ⟨_, hy'⟩
          clear hy hy' n34 n92
          go_wp2_with fail
          go_round
          case rel => exact ⟨p + 1, m - 1, by go_num, by omega, HN⟩
          case measure => simp [intOf]; omega
    · have hul := tok_text h0 ht h3
      have hb3 : (kd != 3) = true := by rw [bne_iff_ne]; exact h3
      clear ht h0 h3
      go_enter Tryd.func8, Tryd.ntmps8
      go_wp2_with fail
      go_region
      all_goals
        go_wp2
        go_ret
        refine ⟨ret_i (by omega), ?_⟩
        first | exact (Below.refl _ _).drew | exact Below.refl _ _
theorem scan_ne (f : Nat) (t : List UInt8) (a : Nat) (h : t.length < f) (h2 : (scanF f t a).2.2 = 0) : (scanF f t a).1 ≠ [] := by
  cases f with
  | zero => omega
  | succ f =>
    rw [scanF] at h2 ⊢
    split
    · simp
    · rename_i h0
      rw [if_neg h0] at h2
      split
      · rename_i e he
        rw [he] at h2
        exact absurd h2 (tok_err he)
      · simp
/-- Where the law's first loop stands. -/
structure Bl (L : List UInt8) (ts : List Tk) (p : Nat) (full : List UInt8) (i k f : Nat) (tt : List UInt8) : Prop where
  le : k ≤ L.length
  fuel : L.length - k < f
  ok : scanF f (L.drop k) k = (ts.drop i, 0, 0)
  full : tt ++ blkF f (L.drop k) (p + i) = full
  small : tt.length ≤ 5 * k
  few : i ≤ k
theorem Bl.start {L : List UInt8} {ts : List Tk} (h : scanL L = (ts, 0, 0)) (p : Nat) : Bl L ts p (blkF (L.length + 1) (L.drop (skp false L)) p) 0 (skp false L) (L.length + 1) [] := by
  have hb : ¬ 16384 < L.length := by
    intro hb
    unfold scanL at h; rw [if_pos hb] at h; cases h
  refine ⟨skp_le _ _, by omega, ?_, rfl, by simp, Nat.zero_le _⟩
  unfold scanL at h; rw [if_neg hb] at h
  exact h
theorem Bl.next {L : List UInt8} {ts : List Tk} {p i k f : Nat} {full tt : List UInt8} (h : Bl L ts p full i k f tt) (hi : i + 1 < ts.length) :
    ∃ kd u x n k' f', L.drop k ≠ [] ∧ tok (L.drop k) = .ok (kd, u, x, n) ∧ ts[i]? = some ⟨kd, u, x, k⟩ ∧ k + n ≤ L.length ∧ Bl L ts p full (i + 1) k' f' (tt ++ (L.drop k).take n ++ sepL (p + i)) := by
  cases f with
  | zero => have := h.fuel; omega
  | succ f =>
    have hok := h.ok
    have hfull := h.full
    by_cases h0 : L.drop k = []
    · rw [scanF, if_pos h0] at hok
      have := congrArg (fun z => z.1.length) hok
      simp at this; omega
    · cases ht : tok (L.drop k) with
      | error e =>
        rw [scanF, if_neg h0, ht] at hok
        have := congrArg (fun z => z.2.2) hok
        exact absurd this (tok_err ht)
      | ok x =>
        obtain ⟨kd, u, x, n⟩ := x
        have hl := tok_len h0 ht
        rw [List.length_drop] at hl
        simp only at hl
        have hk := h.le
        rw [scanF, if_neg h0, ht] at hok
        rw [blkF, if_neg h0, ht] at hfull
        simp only [List.drop_drop] at hok hfull
        have hd : ts.drop i = ⟨kd, u, x, k⟩ :: ts.drop (i + 1) := by
          have h1 := congrArg (fun z => z.1) hok
          simp only at h1
          have hdd := List.drop_eq_getElem_cons (l := ts) (i := i) (by omega)
          rw [hdd] at h1 ⊢
          rw [List.cons.injEq] at h1
          rw [← h1.1]
        have hs := skp_le false (L.drop (k + n))
        rw [List.length_drop] at hs
        have hfu := h.fuel
        have hfw := h.few
        have q1 : k + n ≤ L.length := by omega
        have q2 : k + n + skp false (L.drop (k + n)) ≤ L.length := by omega
        have q3 : L.length - (k + n + skp false (L.drop (k + n))) < f := by omega
        refine ⟨kd, u, x, n, k + n + skp false (L.drop (k + n)), f, h0, rfl, ?_, q1, q2, q3, ?_, ?_, ?_, by omega⟩
        · have := congrArg (fun z => z[0]?) hd
          simpa using this
        · have h1 := congrArg (fun z => z.1) hok
          have h2 := congrArg (fun z => z.2) hok
          simp only at h1 h2
          rw [hd, List.cons.injEq] at h1
          exact Prod.ext h1.2 h2
        · rw [← hfull]
          simp only [List.append_assoc]
          rfl
        · have h3 := h.small
          have h4 := sep_len (p + i)
          rw [List.length_append, List.length_append, List.length_take, List.length_drop]
          omega
theorem Bl.done {L : List UInt8} {ts : List Tk} {p i k f : Nat} {full tt : List UInt8} (h : Bl L ts p full i k f tt) (hi : ¬ i + 1 < ts.length) : tt = full := by
  have hf := h.full
  suffices e : blkF f (L.drop k) (p + i) = [] by rw [e, List.append_nil] at hf; exact hf
  cases f with
  | zero => rfl
  | succ f =>
    have hok := h.ok
    by_cases h0 : L.drop k = []
    · rw [blkF, if_pos h0]
    · cases ht : tok (L.drop k) with
      | error e =>
        rw [scanF, if_neg h0, ht] at hok
        have := congrArg (fun z => z.2.2) hok
        exact absurd this (tok_err ht)
      | ok x =>
        have hl := tok_len h0 ht
        rw [List.length_drop] at hl
        have hk := h.le
        have hfu := h.fuel
        rw [scanF, if_neg h0, ht] at hok
        have h1 := congrArg (fun z => z.1.length) hok
        have h2 := congrArg (fun z => z.2.2) hok
        simp only [List.length_cons, List.length_drop] at h1 h2
        have h3 := scan_ne f _ _ (by rw [List.length_drop, List.length_drop, List.length_drop]; omega) h2
        have h4 := List.length_pos_iff.2 h3
        omega
/-- The other text's tokens. -/
theorem blk_same {L : List UInt8} {ts : List Tk} (h : scanL L = (ts, 0, 0)) (hs : L.length ≤ 2048) (p : Nat) :
    ∃ us, scanL (blkF (L.length + 1) (L.drop (skp false L)) p) = (us, 0, 0) ∧ sameT ts us ∧ (blkF (L.length + 1) (L.drop (skp false L)) p).length ≤ 10240 := by
  have hb : ¬ 16384 < L.length := by omega
  unfold scanL at h; rw [if_neg hb] at h
  have hlen := blk_len (L.length + 1) (L.drop (skp false L)) p
  have hz := blk_skp (L.length + 1) (L.drop (skp false L)) p (skp_idem false L)
  rw [List.length_drop] at hlen
  have hbs := blk_scan (L.length + 1) (L.drop (skp false L)) (skp false L) p ((blkF (L.length + 1) (L.drop (skp false L)) p).length + 1) 0 (by rw [List.length_drop]; omega) (by rw [h]) (by omega)
  generalize blkF (L.length + 1) (L.drop (skp false L)) p = T at *
  have hT : scanL T = scanF (T.length + 1) T 0 := by
    unfold scanL
    rw [if_neg (by omega), hz]; rfl
  rw [h] at hbs
  have hp0 : (scanF (T.length + 1) T 0).2.1 = 0 := by
    have hz2 : ∀ (f : Nat) (t : List UInt8) (a : Nat), (scanF f t a).2.2 = 0 → (scanF f t a).2.1 = 0 := by
      intro f
      induction f with
      | zero => intro _ _ _; rfl
      | succ f ih =>
        intro t a
        rw [scanF]
        split
        · intro _; rfl
        · split
          · rename_i e he
            intro h; exact absurd h (tok_err he)
          · exact ih _ _
    exact hz2 _ _ _ hbs.1
  refine ⟨(scanF (T.length + 1) T 0).1, ?_, hbs.2, by omega⟩
  rw [hT]
  exact Prod.ext rfl (Prod.ext hp0 hbs.1)
end Go.Proofs.YtjanpaallealgaaDoor.lex
