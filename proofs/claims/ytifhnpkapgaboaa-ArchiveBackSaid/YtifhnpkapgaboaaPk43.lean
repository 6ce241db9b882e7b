/-
  Proved: oriellaw13.ArchiveFaults returns true. Conditions: as each theorem says.
-/
import Derived.Test.YtifhnpkapgaboaaPk40
namespace Go.Proofs.Ytifhnpkapgaboaa.arch
open Go.RowKit
open heap
open path (sv str_size)
set_option linter.unusedVariables false
set_option linter.unusedSimpArgs false
set_option maxRecDepth 100000

theorem ite_place {α : Type} {c : Prop} [Decidable c] {q p : Flt} {x : Except Flt α} {n : Nat} (h : (if c then Except.error q else x) = .error p) (hq : q.1 ≤ n) (hx : ¬ c → x = .error p → p.1 ≤ n) : p.1 ≤ n := by
  by_cases hc : c
  · rw [if_pos hc] at h; cases h; exact hq
  · rw [if_neg hc] at h; exact hx hc h
theorem ite_place2 {α : Type} {c : Prop} [Decidable c] {q p : Flt} {x : Except Flt α} {n : Nat} (h : (if c then Except.error q else x) = .error p) (hq : c → q.1 ≤ n) (hx : ¬ c → x = .error p → p.1 ≤ n) : p.1 ≤ n := by
  by_cases hc : c
  · rw [if_pos hc] at h; cases h; exact hq hc
  · rw [if_neg hc] at h; exact hx hc h
theorem ent_place {s : Nm} {k : Int} {a : Nat} {es : List Ent} {p : Flt} (h : entD s k a es = .error p) : p.1 ≤ s.length := by
  unfold entD at h
  refine ite_place h (Nat.le_refl _) fun h1 h => ?_
  refine ite_place h (by simp; omega) fun _ h => ?_
  refine ite_place h (Nat.le_refl _) fun h2 h => ?_
  refine ite_place h (by simp; omega) fun _ h => ?_
  refine ite_place h (Nat.le_refl _) fun h3 h => ?_
  refine ite_place h (by simp only; omega) fun _ h => ?_
  refine ite_place h (Nat.le_refl _) fun h4 h => ?_
  refine ite_place h (by simp only; omega) fun _ h => ?_
  refine ite_place h (Nat.le_refl _) fun h5 h => ?_
  refine ite_place h (by simp only; omega) fun _ h => ?_
  cases h
theorem lay_place {s : Nm} : ∀ (f a : Nat) (es : List Ent) {p : Flt}, layD s f a es = .error p → p.1 ≤ s.length
  | 0, a, es, p, h => by cases h; exact Nat.zero_le _
  | f + 1, a, es, p, h => by
    unfold layD at h
    split at h
    · cases h; exact Nat.le_refl _
    split at h
    · cases h
    split at h
    · cases h; simp; omega
    split at h
    · cases h; simp; omega
    cases he : entD s (s.getD a 0).toNat (a + 1) es with
    | error q => rw [he] at h; cases h; exact ent_place he
    | ok r => rw [he] at h; exact lay_place f _ _ h
theorem dec_place {s : Nm} {p : Flt} (h : decD s = .error p) : p.1 ≤ s.length := by
  unfold decD at h
  split at h
  · cases h; exact Nat.zero_le _
  split at h
  · cases h; exact Nat.zero_le _
  cases he : layD s (s.length + 1) 3 [] with
  | error q => rw [he] at h; cases h; exact lay_place _ _ _ he
  | ok r =>
    rw [he] at h
    simp only at h
    split at h
    · cases h; simp; omega
    · cases h
theorem sv_app (s t : Nm) : (⟨s.toArray⟩ : ByteArray) ++ ⟨t.toArray⟩ = ⟨(s ++ t).toArray⟩ := by
  apply ByteArray.ext
  simp [ByteArray.data_append]
/-- What Decode returns, but for its layer. -/
def decR (r : Except Flt (List Ent)) : Nat × Int := match r with
  | .error p => p
  | .ok _ => (0, 0)
theorem Decode_of (s : Nm) (w : World) (hs : s.length ≤ 1000000000000000000) : Calls Try.prog 18 #[sv s] w fun e w' => ∃ A n c, e = .returned (.tuple #[.agg #[.slice A n c], .int .i64 (decR (decD s)).1, .int .i64 (decR (decD s)).2]) ∧ Below w.heap.size w w' := by
  refine (Decode_any s w hs).mono ?_
  intro e w' h
  cases hd : decD s with
  | error p => rw [hd] at h; exact ⟨none, 0, 0, h.1, h.2⟩
  | ok es =>
    rw [hd] at h
    obtain ⟨v, rfl, hr, hb⟩ := h
    obtain ⟨A, gb, c, rfl, -⟩ := hr.slice
    exact ⟨A, es.length, c, rfl, hb⟩
theorem faults_any (s t : Nm) (w : World) (hs : s.length ≤ 140737488351232) (ht : t.length ≤ 140737488351232) : Calls Try.prog 5 #[sv s, sv t] w fun e w' => e = .returned (.bool true) ∧ Below w.heap.size w w' := by
  have z := str_size s
  have zt := str_size (s ++ t)
  have hcat := sv_app s t
  have hle : (decR (decD s)).1 ≤ s.length := by
    cases hd : decD s with
    | error p => exact dec_place hd
    | ok es => exact Nat.zero_le _
  have hlen : (s ++ t).length = s.length + t.length := List.length_append
  have hbig : (s ++ t).length ≤ 281474976702464 := by omega
  have HL : Hid ((decR (decD s)).2 ≠ 0 → (decR (decD s)).2 ≠ 1300 → (decR (decD s)).2 ≠ 1310 → (s ++ t).length ≤ 65536 → (decR (decD s)).1 + 143 ≤ s.length → decR (decD (s ++ t)) = decR (decD s)) := fun h0 h1 h2 hl ha => by
    cases hd : decD s with
    | error p => rw [hd] at h0 h1 h2 ha; rw [dec_more s t p hd h0 h1 h2 hl ha]
    | ok es => rw [hd] at h0; exact absurd rfl h0
  have HD := Lib.hid (fun W => Decode_of s W (by omega))
  have HD2 := Lib.hid (fun W => Decode_of (s ++ t) W (by omega))
  generalize decR (decD s) = r at *
  generalize decR (decD (s ++ t)) = r2 at *
  obtain ⟨a, k⟩ := r
  obtain ⟨a2, k2⟩ := r2
  simp only at HL HD HD2 hle
  go_enter Try.func5, Try.ntmps5
  go_wp2_with fail
  refine (awake_any _).mono ?_; rintro e w0 ⟨rfl, hb⟩
  have HB := Lib.hid hb
  clear hb
  go_wp2_with fail
  refine (HD.out _).mono ?_; rintro e w1 ⟨A, n, c, rfl, hb⟩
  have HB1 := Lib.hid (HB.out.trans (hb.mono HB.out.size))
  clear hb HB HD
  go_wp2_with fail
  change Calls _ _ #[sv (s ++ t)] _ _
  refine (HD2.out _).mono ?_; rintro e w2 ⟨A2, n2, c2, rfl, hb⟩
  have HB2 := Lib.hid ((HB1.out.alloc HB1.out.size _).trans (hb.mono (HB1.out.alloc HB1.out.size _).size))
  clear hb HB1 HD2
  go_wp2_with fail
  refine (Num_any _ _).mono ?_; rintro e w' ⟨rfl, rfl⟩
  have hw1 : IntKind.i64.wrap ((a : Int) + 140) = (a : Int) + 140 := IntWalk.i64_in _ (by omega)
  have hw2 : IntKind.i64.wrap ((a : Int) + 140 + 3) = (a : Int) + 140 + 3 := IntWalk.i64_in _ (by omega)
  go_wp2_with fail
  all_goals first
    | (go_ret; exact ⟨rfl, HB2.out.alloc HB2.out.size _⟩)
    | skip
  rename_i h0 h1 h2 h3 h4 h5 Kx ax Ky ay
  obtain ⟨rfl, rfl⟩ : a2 = a ∧ k2 = k := by
    have := HL.out h0 h1 h2 (by omega) (by omega)
    exact ⟨congrArg Prod.fst this, congrArg Prod.snd this⟩
  refine (Num_any _ _).mono ?_; rintro e w' ⟨rfl, rfl⟩
  go_wp2_with fail
  go_ret
  exact ⟨rfl, HB2.out.alloc HB2.out.size _⟩
end Go.Proofs.Ytifhnpkapgaboaa.arch
