/-
  Proved: which texts the statement's own sound takes; an inode's bytes read back. Conditions: as each theorem says.
-/
import Derived.Test.YtjaljnpgomfmfaaInode8
namespace Go.Proofs.Ytjaljnpgomfmfaa.inode
open Go.RowKit
open heap
open num (Num_any list_len leS leE leGood U64)
set_option linter.unusedVariables false

theorem ofLe_le (x n : Nat) (h : x < 256 ^ n) : num.ofLeL (le x n) = x := by
  unfold le
  rw [num.ofLeL_bytes, Nat.mod_eq_of_lt h]
theorem fld_mid (a b c : List UInt8) (x n : Nat) (hb : b = le x n) (h : x < 256 ^ n) : fld ⟨(a ++ (b ++ c)).toArray⟩ a.length n = x := by
  subst hb
  unfold fld
  rw [show (⟨(a ++ (le x n ++ c)).toArray⟩ : ByteArray).data.toList = a ++ (le x n ++ c) from by simp, List.drop_left, List.take_left' (le_len x n), ofLe_le x n h]
theorem fld_mid' (l a b c : List UInt8) (x n f : Nat) (hl : l = a ++ (b ++ c)) (hf : a.length = f) (hb : b = le x n) (h : x < 256 ^ n) : fld ⟨l.toArray⟩ f n = x := by
  subst hl; subst hf
  exact fld_mid a b c x n hb h
theorem body_split (kind size : Int) (len : Nat) (ex : Nat → Ext) (k m : Nat) (h : k < m) : ∃ c, bodyB kind size len ex m = bodyB kind size len ex k ++ (le (ex k).1.toNat 2 ++ (le (ex k).2.toNat 2 ++ c)) := by
  induction m with
  | zero => omega
  | succ m ih =>
    rcases Nat.lt_or_ge k m with h1 | h1
    · obtain ⟨c, hc⟩ := ih h1
      refine ⟨c ++ (le (ex m).1.toNat 2 ++ le (ex m).2.toNat 2), ?_⟩
      rw [bodyB, hc]
      simp [List.append_assoc]
    · obtain rfl : k = m := by omega
      exact ⟨[], by simp [bodyB, List.append_assoc]⟩
theorem body_head (kind size : Int) (len : Nat) (ex : Nat → Ext) (m : Nat) : ∃ c, bodyB kind size len ex m = headB kind size len ++ c := by
  induction m with
  | zero => exact ⟨[], by simp [bodyB]⟩
  | succ m ih =>
    obtain ⟨c, hc⟩ := ih
    exact ⟨_, by rw [bodyB, hc, List.append_assoc, List.append_assoc]⟩
theorem back (kind size : Int) (len : Nat) (ex : Nat → Ext) (h : mayI kind size len ex = true) :
    (inoB kind size len ex).length = 64 ∧ (fld ⟨(inoB kind size len ex).toArray⟩ 0 1 : Int) = kind ∧ (fld ⟨(inoB kind size len ex).toArray⟩ 4 4 : Int) = size ∧ fld ⟨(inoB kind size len ex).toArray⟩ 1 1 = len ∧ ∀ k, k < len → dEx ⟨(inoB kind size len ex).toArray⟩ k = ex k := by
  have h' : 0 ≤ kind ∧ kind < 256 ∧ 0 ≤ size ∧ size < 65537 ∧ len ≤ 14 ∧ okTo ex len = true := by
    simp only [mayI, Bool.and_eq_true, Bool.not_eq_true', decide_eq_false_iff_not] at h
    obtain ⟨⟨h1, h2⟩, -⟩ := h
    unfold headBad at h1
    refine ⟨?_, ?_, ?_, ?_, ?_, h2⟩ <;> omega
  obtain ⟨k0, k1, s0, s1, l14, hok⟩ := h'
  obtain ⟨c, hc⟩ := body_head kind size len ex len
  have hI : inoB kind size len ex = headB kind size len ++ (c ++ List.replicate (56 - 4 * len) 0) := by rw [inoB, hc, List.append_assoc]
  refine ⟨?_, ?_, ?_, ?_, fun k hk => ?_⟩
  · rw [inoB, List.length_append, bodyB_len, List.length_replicate]; omega
  · have := fld_mid' (inoB kind size len ex) [] (le kind.toNat 1) ((le len 1 ++ (le 0 2 ++ le size.toNat 4)) ++ (c ++ List.replicate (56 - 4 * len) 0)) kind.toNat 1 0 (by rw [hI, headB]; simp [List.append_assoc]) rfl rfl (by omega)
    rw [this]; omega
  · have := fld_mid' (inoB kind size len ex) (le kind.toNat 1 ++ (le len 1 ++ le 0 2)) (le size.toNat 4) (c ++ List.replicate (56 - 4 * len) 0) size.toNat 4 4 (by rw [hI, headB]; simp [List.append_assoc]) (by simp [le_len]) rfl (by show _ < 4294967296; omega)
    rw [this]; omega
  · exact fld_mid' (inoB kind size len ex) (le kind.toNat 1) (le len 1) ((le 0 2 ++ le size.toNat 4) ++ (c ++ List.replicate (56 - 4 * len) 0)) len 1 1 (by rw [hI, headB]; simp [List.append_assoc]) (by simp [le_len]) rfl (by omega)
  · have hg : ¬ extBad (ex k) := by
      have := okTo_le hok (show k + 1 ≤ len by omega)
      simp only [okTo, Bool.and_eq_true, Bool.not_eq_true', decide_eq_false_iff_not] at this
      exact this.2
    unfold extBad at hg
    obtain ⟨d, hd⟩ := body_split kind size len ex k len hk
    have e1 := fld_mid' (inoB kind size len ex) (bodyB kind size len ex k) (le (ex k).1.toNat 2) ((le (ex k).2.toNat 2 ++ d) ++ List.replicate (56 - 4 * len) 0) (ex k).1.toNat 2 (8 + 4 * k) (by rw [inoB, hd]; simp [List.append_assoc]) (bodyB_len _ _ _ _ _) rfl (by show _ < 65536; omega)
    have e2 := fld_mid' (inoB kind size len ex) (bodyB kind size len ex k ++ le (ex k).1.toNat 2) (le (ex k).2.toNat 2) (d ++ List.replicate (56 - 4 * len) 0) (ex k).2.toNat 2 (10 + 4 * k) (by rw [inoB, hd]; simp [List.append_assoc]) (by rw [List.length_append, bodyB_len, le_len]; omega) rfl (by show _ < 65536; omega)
    unfold dEx
    rw [e1, e2]
    ext <;> (simp; omega)
theorem bodyB_congr {kind size : Int} {len : Nat} {ex ey : Nat → Ext} : ∀ n, (∀ i, i < n → ex i = ey i) → bodyB kind size len ex n = bodyB kind size len ey n := by
  intro n
  induction n with
  | zero => intro _; rfl
  | succ n ih => intro h; rw [bodyB, bodyB, ih (fun i hi => h i (by omega)), h n (by omega)]
theorem inoB_congr {kind size : Int} {len : Nat} {ex ey : Nat → Ext} (h : ∀ i, i < len → ex i = ey i) : inoB kind size len ex = inoB kind size len ey := by rw [inoB, inoB, bodyB_congr len h]
theorem okTo_congr {ex ey : Nat → Ext} : ∀ n, (∀ i, i < n → ex i = ey i) → okTo ex n = okTo ey n := by
  intro n
  induction n with
  | zero => intro _; rfl
  | succ n ih => intro h; rw [okTo, okTo, ih (fun i hi => h i (by omega)), h n (by omega)]
theorem sumTo_congr {ex ey : Nat → Ext} : ∀ n, (∀ i, i < n → ex i = ey i) → sumTo ex n = sumTo ey n := by
  intro n
  induction n with
  | zero => intro _; rfl
  | succ n ih => intro h; rw [sumTo, sumTo, ih (fun i hi => h i (by omega)), h n (by omega)]
theorem mayI_congr {kind size : Int} {len : Nat} {ex ey : Nat → Ext} (h : ∀ i, i < len → ex i = ey i) : mayI kind size len ex = mayI kind size len ey := by
  rw [mayI, mayI, okTo_congr len h, sumTo_congr len h]
theorem decOk_back (kind size : Int) (len : Nat) (ex : Nat → Ext) (h : mayI kind size len ex = true) : decOk ⟨(inoB kind size len ex).toArray⟩ = true := by
  obtain ⟨h1, h2, h3, h4, h5⟩ := back kind size len ex h
  have l14 : len ≤ 14 := by
    simp only [mayI, Bool.and_eq_true, Bool.not_eq_true', decide_eq_false_iff_not] at h
    obtain ⟨⟨h1, h2⟩, -⟩ := h
    unfold headBad at h1
    omega
  rw [decOk, h2, h3, h4, mayI_congr h5, h, inoB_congr h5, str_size, h1]
  simp [l14]
end Go.Proofs.Ytjaljnpgomfmfaa.inode
