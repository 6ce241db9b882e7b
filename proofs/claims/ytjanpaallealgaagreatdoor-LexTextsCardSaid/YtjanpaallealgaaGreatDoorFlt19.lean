/-
  Proved: what the document's own decimal returns. Conditions: as each theorem says.
-/
import Derived.Test.YtjanpaallealgaaGreatDoorFlt18
import Derived.Test.YtjanpaallealgaaGreatDoorFltDec
namespace Go.Proofs.YtjanpaallealgaaGreatDoor.flt
open Go.RowKit Ieee
set_option linter.unusedVariables false
set_option maxRecDepth 100000

theorem cutL_app {c : UInt8} {f x : List UInt8} (h : c ∉ f) : cutL c (f ++ x) = (f ++ (cutL c x).1, (cutL c x).2.1, (cutL c x).2.2) := by
  induction f with
  | nil => simp
  | cons y f ih =>
    rw [List.mem_cons, not_or] at h
    rw [List.cons_append, cutL, if_neg (fun e => h.1 e.symm), ih h.2]; rfl
theorem get_mid (f : List UInt8) (c : UInt8) (r : List UInt8) (h : f.length < (⟨(f ++ c :: r).toArray⟩ : ByteArray).size) : (⟨(f ++ c :: r).toArray⟩ : ByteArray)[f.length] = c := by
  have := get_list (SS := ⟨(f ++ c :: r).toArray⟩) (L := f ++ c :: r) rfl f.length h
  rw [← this]
  simp
theorem digB_iff (l : List UInt8) : digB l = true ↔ l.all isD = true ∧ 1 ≤ l.length := by
  unfold digB
  cases l <;> simp
theorem rdecimal_all (l : List UInt8) (w : World) (hs : l.length ≤ 1000000000000000000) :
    Calls Tryz.prog 62 #[.string ⟨l.toArray⟩] w fun e w' => e = .returned (.tuple #[fv (decVL l), .bool (decOkL l)]) ∧ w = w' := by
  have hS : (⟨l.toArray⟩ : ByteArray).size = l.length := str_size l
  have HD : Hid (∀ W, Calls Tryz.prog 76 #[.string ⟨l.toArray⟩, .int .i64 0] W fun e w' => e = .returned (.int .i64 ((dg l : Nat) : Int)) ∧ W = w') :=
    fun W => (rdigits_any ⟨l.toArray⟩ 0 W (Nat.zero_le _) (by rw [hS]; omega))
  have bad : decOkL l = false → (∀ {P : Ending → World → Prop}, True) → decVL l = 0 := fun h _ => by
    unfold decVL decV; unfold decOkL at h; rw [h]; rfl
  have no : decOkL l = false → Calls Tryz.prog 62 #[.string ⟨l.toArray⟩] w (fun e w' => e = .returned (.tuple #[fv 0, .bool false]) ∧ w = w') → Calls Tryz.prog 62 #[.string ⟨l.toArray⟩] w (fun e w' => e = .returned (.tuple #[fv (decVL l), .bool (decOkL l)]) ∧ w = w') := fun h1 h2 => by
    have e : decVL l = 0 := by unfold decVL decV; unfold decOkL at h1; rw [h1]; rfl
    rw [h1, e]; exact h2
  obtain ⟨f, r, hl, hf, hlen, hr⟩ := dg_split l
  rw [← hlen] at HD
  have yes : ∀ (g b : List UInt8) (pt : Bool), cutL 46 l = (g, b, pt) → decOkL l = true → ∃ q, decVL l = q ∧ fop .quo (fl (numL (g ++ b))) (fl (10 ^ b.length)) = some q := by
    intro g b pt hc hok
    have hok' := hok
    unfold decOkL at hok
    rw [hc] at hok
    unfold decOk at hok
    simp only [Bool.and_eq_true, decide_eq_true_iff, Bool.or_eq_true, Bool.not_eq_true'] at hok
    obtain ⟨⟨h1, h2⟩, h3⟩ := hok
    have hall : (g ++ b).all isD = true := by
      rw [List.all_append, Bool.and_eq_true]
      refine ⟨((digB_iff g).1 h1).1, ?_⟩
      rcases h2 with h2 | h2
      · rcases cutL_cases 46 l with ⟨_, h⟩ | ⟨a, b', _, _, h⟩
        · rw [hc] at h; cases h; rfl
        · rw [hc] at h; cases h; cases h2
      · exact ((digB_iff b).1 h2).1
    have hb1 := numL_lt _ hall
    rw [List.length_append] at hb1
    have hb2 := pow_le15 (g.length + b.length) (by omega)
    have hb3 := pow_le15 b.length (by omega)
    obtain ⟨q, hq, _⟩ := quo_some (fl (numL (g ++ b))) (fl (10 ^ b.length)) (fin_fl _ (by omega)) (fl_pos _ (Nat.pow_pos (by omega)) (by omega)).1 (fl_pos _ (Nat.pow_pos (by omega)) (by omega)).2
    refine ⟨q, ?_, hq⟩
    unfold decVL decV
    unfold decOkL at hok'
    rw [hok', if_pos rfl, hc]
    unfold decQ
    simp only
    rw [hq]; rfl
  rcases hr with rfl | ⟨c, r', rfl, hcd⟩
  · rw [List.append_nil] at hl
    subst hl
    have hc : cutL 46 l = (l, [], false) := cutL_none (all_not hf 46 (by decide))
    have hext : (⟨l.toArray⟩ : ByteArray).extract 0 l.length = ⟨l.toArray⟩ := by
      rw [← hS]; exact ByteArray.extract_zero_size
    by_cases h0 : l.length = 0
    · refine no ?_ (rdec_no0_np _ _ l.length 0 w (by rw [hS]; omega) hS.symm rfl hext HD h0)
      unfold decOkL
      rw [hc]
      have : l = [] := List.eq_nil_of_length_eq_zero h0
      subst this
      rfl
    · by_cases h15 : l.length ≤ 15
      · have hok : decOkL l = true := by
          unfold decOkL; rw [hc]; unfold decOk
          rw [(digB_iff l).2 ⟨hf, by omega⟩]
          simp; omega
        obtain ⟨q, e1, e2⟩ := yes l [] false hc hok
        rw [hok, e1]
        exact rdec_yes_np _ _ l.length 0 w (by rw [hS]; omega) hS.symm rfl hext HD q l (by omega) (by rw [hS]; exact h15) rfl hf (by omega) (by rw [List.append_nil] at e2; exact e2)
      · refine no ?_ (rdec_no1_np _ _ l.length 0 w (by rw [hS]; omega) hS.symm rfl hext HD (by omega) (by rw [hS]; omega))
        unfold decOkL; rw [hc]; unfold decOk
        have : decide (l.length + ([] : List UInt8).length ≤ 15) = false := decide_eq_false (by simpa using h15)
        rw [this, Bool.and_false]
  · have hll : l.length = f.length + 1 + r'.length := by rw [hl]; simp; omega
    have hk : f.length < (⟨l.toArray⟩ : ByteArray).size := by rw [hS]; omega
    have hget : (⟨l.toArray⟩ : ByteArray)[f.length] = c := by
      subst hl; exact get_mid f c r' hk
    by_cases h46 : c = 46
    · subst h46
      have hc : cutL 46 l = (f, r', true) := by rw [hl]; exact cutL_some (all_not hf 46 (by decide))
      have hdr : l.drop (f.length + 1) = r' := by rw [hl]; simp
      have HE : Hid (∀ W, Calls Tryz.prog 76 #[.string ⟨l.toArray⟩, .int .i64 ((f.length : Int) + 1)] W fun e w' => e = .returned (.int .i64 ((dg r' : Nat) : Int)) ∧ W = w') := fun W => by
        have := rdigits_any ⟨l.toArray⟩ (f.length + 1) W (by rw [hS]; omega) (by rw [hS]; omega)
        have e : (⟨l.toArray⟩ : ByteArray).data.toList.drop (f.length + 1) = r' := hdr
        rw [e] at this
        exact this
      have hne : (((⟨l.toArray⟩ : ByteArray)[f.length].toNat : Int) == 46) = true := by rw [hget]; rfl
      have hdl := dg_le r'
      have hok : decOkL l = (digB f && (digB r' && decide (f.length + r'.length ≤ 15))) := by
        unfold decOkL; rw [hc]; unfold decOk; simp [Bool.and_assoc]
      by_cases hm : dg r' = 0 ∨ f.length + 1 + dg r' ≠ (⟨l.toArray⟩ : ByteArray).size
      · refine no ?_ (rdec_less _ f.length (dg r') w (by rw [hS]; omega) hk hne HD HE (by rw [hS]; omega) hm)
        rw [hok]
        have : digB r' = false := by
          cases hb : digB r' with
          | false => rfl
          | true =>
            exfalso
            have h1 := (digB_iff r').1 hb
            have h2 := dg_full.2 h1.1
            rw [hS] at hm
            omega
        rw [this]; simp
      · have hm0 : 0 < dg r' := by omega
        have hsz : f.length + 1 + dg r' = (⟨l.toArray⟩ : ByteArray).size := by omega
        have hdr2 : dg r' = r'.length := by rw [hS] at hsz; omega
        have hrall := dg_full.1 hdr2
        have hext : (⟨l.toArray⟩ : ByteArray).extract 0 f.length ++ (⟨l.toArray⟩ : ByteArray).extract (f.length + 1) (⟨l.toArray⟩ : ByteArray).size = ⟨(f ++ r').toArray⟩ := by
          subst hl
          rw [ext_front, ext_back 46 f r' _ hS]
          apply ByteArray.ext
          apply Array.toList_inj.1
          simp [ByteArray.data_append]
        have hsz2 : (⟨(f ++ r').toArray⟩ : ByteArray).size = f.length + r'.length := by rw [str_size]; simp
        have hrb : digB r' = true := (digB_iff r').2 ⟨hrall, by omega⟩
        by_cases h0 : f.length = 0
        · refine no ?_ (rdec_no0_pt _ _ f.length (dg r') w (by rw [hS]; omega) hk hne hm0 hsz hext HD HE h0)
          rw [hok]
          have : f = [] := List.eq_nil_of_length_eq_zero h0
          subst this
          rfl
        · by_cases h15 : f.length + r'.length ≤ 15
          · have hok2 : decOkL l = true := by rw [hok, hrb, (digB_iff f).2 ⟨hf, by omega⟩, decide_eq_true h15]; rfl
            obtain ⟨q, e1, e2⟩ := yes f r' true hc hok2
            rw [hok2, e1]
            exact rdec_yes_pt _ _ f.length (dg r') w (by rw [hS]; omega) hk hne hm0 hsz hext HD HE q (f ++ r') (by omega) (by rw [hsz2]; exact h15) rfl (by rw [List.all_append, hf, hrall]; rfl) (by omega) (by rw [hdr2]; exact e2)
          · refine no ?_ (rdec_no1_pt _ _ f.length (dg r') w (by rw [hS]; omega) hk hne hm0 hsz hext HD HE (by omega) (by rw [hsz2]; omega))
            rw [hok, decide_eq_false h15]; simp
    · have hne : (((⟨l.toArray⟩ : ByteArray)[f.length].toNat : Int) == 46) = false := by
        rw [hget]
        refine beq_eq_false_iff_ne.2 (fun e => h46 (UInt8.toNat_inj.1 ?_))
        have h46n : (46 : UInt8).toNat = 46 := rfl
        rw [h46n]; omega
      refine no ?_ (rdec_bad _ f.length w (by rw [hS]; omega) hk hne HD)
      unfold decOkL
      rw [hl, cutL_app (all_not hf 46 (by decide)), cutL, if_neg h46]
      unfold decOk
      have : digB (f ++ c :: (cutL 46 r').1) = false := by
        unfold digB
        rw [List.all_append, List.all_cons, hcd]
        simp
      rw [this]; rfl
end Go.Proofs.YtjanpaallealgaaGreatDoor.flt
