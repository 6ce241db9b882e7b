/-
  Proved: ArchiveBack returns true. Conditions: as each theorem says.
-/
import Derived.Test.YtifhnpkapgaboaaPk47
namespace Go.Proofs.Ytifhnpkapgaboaa.arch
open Go.RowKit
open heap
open path (sv str_size)
set_option linter.unusedVariables false
set_option linter.unusedSimpArgs false
set_option maxRecDepth 100000

theorem enc_forms {ls : List (List Ent)} (h : (encI ls).2.2 = 0) : ∀ es ∈ ls, (formL es).2 = 0 := by
  unfold encI at h
  by_cases h1 : 12 < ls.length
  · rw [if_pos h1] at h; exact absurd h (by decide)
  rw [if_neg h1] at h
  cases h2 : maysI ls 0 with
  | some p => rw [h2] at h; exact absurd h (mays_ne _ _ h2)
  | none => exact mays_all _ _ h2
theorem form_big {es : List Ent} (h : (formL es).2 = 0) : ∀ x ∈ es, big x := fun x hx => by
  have := (form_ok h).2 x hx
  exact ⟨by omega, by omega⟩
theorem back_any (s : Nm) (ls : List (List Ent)) (A : Option Addr) (c : Nat) (w : World) (hs : s.length ≤ 1000000000000000000) (h : LIn w A c ls) (hcm : c ≤ 9223372036854775807) (hn : ls.length ≤ 5864062014800) (hes : ∀ es ∈ ls, es.length ≤ 2932031007400) (hbig : ∀ es ∈ ls, ∀ x ∈ es, big x) :
    Calls Try.prog 4 #[sv s, .agg #[.slice A ls.length c]] w fun e w' => e = .returned (.bool true) ∧ Below w.heap.size w w' := by
  have z := str_size s
  have HX := Lib.hid (blk_new w (.cells #[.slice A ls.length c] 37 (0, 0)))
  have HB : Hid (Below w.heap.size w (w.alloc (.cells #[.slice A ls.length c] 37 (0, 0)))) := (Below.refl _ _).alloc (Nat.le_refl _) _
  have HL := Lib.hid h
  have HES := Lib.hid hes
  have HBG := Lib.hid hbig
  have HD := Lib.hid (fun W => DecodeImage_any s W hs)
  clear h hes hbig
  go_enter Try.func4, Try.ntmps4
  go_wp2_with fail
  change Calls _ _ _ (w.alloc (.cells #[.slice A ls.length c] 37 (0, 0))) _
  refine (awake_any _).mono ?_; rintro e w1 ⟨rfl, hb⟩
  have HX1 := Lib.hid (blk_below HX.out hb)
  have HB1 : Hid (Below w.heap.size w w1) := HB.out.trans (hb.mono HB.out.size)
  clear hb HX HB
  go_wp2_with fail
  refine (HD.out w1).mono ?_
  intro e w2 hp
  obtain ⟨R, hR⟩ : ∃ R, decI s = R := ⟨_, rfl⟩
  rw [hR] at hp
  have key : ∃ (A1 : Option Addr) (n1 c1 : Nat) (a1 k1 : Int), e = .returned (.tuple #[.agg #[.slice A1 n1 c1], .int .i64 a1, .int .i64 k1]) ∧ Below w1.heap.size w1 w2 ∧ ((k1 ≠ 0 ∧ 0 ≤ a1 ∧ a1 ≤ s.length) ∨ (k1 = 0 ∧ ∃ l1, n1 = l1.length ∧ LIn w2 A1 c1 l1 ∧ c1 ≤ 9223372036854775807 ∧ encI l1 = (s, 0, 0))) := by
    cases R with
    | error p =>
      obtain ⟨rfl, hb⟩ := hp
      obtain ⟨h1, h2⟩ := decI_place hR
      exact ⟨none, 0, 0, _, _, rfl, hb, .inl ⟨h2, by omega, by omega⟩⟩
    | ok l1 =>
      obtain ⟨v, rfl, ⟨vs, hrow⟩, hb⟩ := hp
      obtain ⟨A1, c1, rfl, h1, h2⟩ := hrow.lin
      exact ⟨A1, l1.length, c1, _, _, rfl, hb, .inr ⟨rfl, l1, rfl, h1, h2, dec_enc hR⟩⟩
  obtain ⟨A1, n1, c1, a1, k1, rfl, hb, hcase⟩ := key
  have HX2 := Lib.hid (blk_below HX1.out hb)
  have HB2 : Hid (Below w.heap.size w w2) := HB1.out.trans (hb.mono HB1.out.size)
  have HCS := Lib.hid hcase
  clear hb HX1 HB1 hp hR hcase
  have HN3 := Lib.hid (blk_new w2 (.cells #[.slice A1 n1 c1] 37 (0, 0)))
  have HX3 := Lib.hid (blk_old HX2.out (.cells #[.slice A1 n1 c1] 37 (0, 0)))
  have HA3 : Hid (Below w2.heap.size w2 (w2.alloc (.cells #[.slice A1 n1 c1] 37 (0, 0)))) := (Below.refl _ _).alloc (Nat.le_refl _) _
  have HB3 : Hid (Below w.heap.size w (w2.alloc (.cells #[.slice A1 n1 c1] 37 (0, 0)))) := HB2.out.trans (HA3.out.mono HB2.out.size)
  have HLB : Hid (∀ l1, LIn w2 A1 c1 l1 → LIn (w2.alloc (.cells #[.slice A1 n1 c1] 37 (0, 0))) A1 c1 l1) := fun l1 h => h.below HA3.out
  clear HA3
  go_upto_region 4 with fail
  change Code.wp _ _ _ _ (w2.alloc (.cells #[.slice A1 n1 c1] 37 (0, 0)))
  generalize (w2.alloc (.cells #[.slice A1 n1 c1] 37 (0, 0))) = w3 at *
  generalize w2.heap.size = b5 at *
  go_wp2_with fail
  refine (Num_any k1 w3).mono ?_; rintro e w3 ⟨rfl, rfl⟩
  go_upto_if 27 with fail
  go_cut [8, 9, 10, 27] from 28 to 49 (fun _ _ _ _ wc => Hid (wc.heap[w.heap.size]? = some (.cells #[.slice A ls.length c] 37 (0, 0))) ∧ Hid (Below w.heap.size w wc))
  case first =>
    rcases HCS.out with ⟨hk, ha0, ha1⟩ | ⟨rfl, l1, rfl, hl1, hc1, henc⟩
    · have hb1 : (k1 == 0) = false := by rw [beq_eq_false_iff_ne]; exact hk
      have d1 : decide (a1 < 0) = false := decide_eq_false (by omega)
      have d2 : decide ((s.length : Int) < a1) = false := decide_eq_false (by omega)
      rw [← z] at d2
      go_wp2_with fail
      go_meet
      case rel => exact ⟨HX3, HB3⟩
    · have q0 := blk_cell HN3.out 0
      have ql := blk_lt HN3.out
      simp only [List.getElem?_toArray, List.getElem?_cons_zero] at q0
      have he0 : (encI l1).2.2 = 0 := by rw [henc]
      have HE := Lib.hid (EncodeImage_any l1 A1 c1 w3 (HLB.out l1 hl1) hc1 (fun es hes => form_big (enc_forms he0 es hes)))
      rw [henc] at HE
      clear hl1 henc he0
      go_wp2_with fail
      refine HE.out.mono ?_; rintro e w4 ⟨rfl, hb⟩
      have HX4 := Lib.hid (blk_below HX3.out hb)
      have HB4 : Hid (Below w.heap.size w w4) := HB3.out.trans (hb.mono HB3.out.size)
      clear hb HE q0 ql
      go_wp2_with fail
      refine (Num_any 0 w4).mono ?_; rintro e w4 ⟨rfl, rfl⟩
      go_wp2_with fail
      go_meet
      case rel => exact ⟨HX4, HB4⟩
  case rest =>
  obtain ⟨HX4, HB4⟩ := hcut
  clear HX3 HB3 HN3 HLB HX2 HB2 HCS HD
  generalize wc = w4 at *
  have q0 := blk_cell HX4.out 0
  have ql := blk_lt HX4.out
  simp only [List.getElem?_toArray, List.getElem?_cons_zero] at q0
  have HC := Lib.hid (CopyImage_any ls A c w4 (HL.out.below HB4.out) hcm hn HES.out)
  go_wp2_with fail
  refine HC.out.mono ?_; rintro e w5 ⟨v, vs, rfl, hrow, hb⟩
  obtain ⟨A5, c5, rfl, h5, h6⟩ := hrow.lin
  have HX5 := Lib.hid (blk_below HX4.out hb)
  have HB5 : Hid (Below w.heap.size w w5) := HB4.out.trans (hb.mono HB4.out.size)
  have HE := Lib.hid (EncodeImage_any ls A5 c5 w5 h5 h6 HBG.out)
  have HEN : Hid ((encI ls).2.2 ≠ 0 → (encI ls).1 = []) := enc_none
  have HED : Hid ((encI ls).2.2 = 0 → decI (encI ls).1 = .ok ls) := enc_dec
  obtain ⟨⟨t, a2, k2⟩, ht⟩ : ∃ x, encI ls = x := ⟨_, rfl⟩
  rw [ht] at HE HEN HED
  clear hb hrow h5 HC q0 ql ht HX4 HB4
  simp only at HE HEN HED
  go_wp2_with fail
  refine HE.out.mono ?_; rintro e w6 ⟨rfl, hb⟩
  have HX6 := Lib.hid (blk_below HX5.out hb)
  have HB6 : Hid (Below w.heap.size w w6) := HB5.out.trans (hb.mono HB5.out.size)
  clear hb HE HX5 HB5
  go_wp2_with fail
  refine (Num_any k2 w6).mono ?_; rintro e w6 ⟨rfl, rfl⟩
  by_cases hk : k2 = 0
  · subst hk
    have hdec := HED.out rfl
    have htl : t.length ≤ 1000000000000000000 := by
      have h1 := hdec
      unfold decI readG at h1
      by_cases h2 : 65536 < t.length
      · rw [if_pos h2] at h1; cases h1
      · omega
    have HD := Lib.hid (DecodeImage_any t w6 htl)
    rw [hdec] at HD
    clear HED HEN hdec htl
    go_wp2_with fail
    refine HD.out.mono ?_; rintro e w7 ⟨v, rfl, ⟨vs, hrow⟩, hb⟩
    obtain ⟨A7, c7, rfl, h7, h8⟩ := hrow.lin
    have HX7 := Lib.hid (blk_below HX6.out hb)
    have HB7 : Hid (Below w.heap.size w w7) := HB6.out.trans (hb.mono HB6.out.size)
    have HN8 := Lib.hid (blk_new w7 (.cells #[.slice A7 ls.length c7] 37 (0, 0)))
    have HX8 := Lib.hid (blk_old HX7.out (.cells #[.slice A7 ls.length c7] 37 (0, 0)))
    have HA8 : Hid (Below w7.heap.size w7 (w7.alloc (.cells #[.slice A7 ls.length c7] 37 (0, 0)))) := (Below.refl _ _).alloc (Nat.le_refl _) _
    have HB8 : Hid (Below w.heap.size w (w7.alloc (.cells #[.slice A7 ls.length c7] 37 (0, 0)))) := HB7.out.trans (HA8.out.mono HB7.out.size)
    have HSI := Lib.hid (SameImage_two ls A A7 c c7 _ (HL.out.below HB8.out) (h7.below HA8.out) hcm h8)
    clear hb hrow h7 HD HX6 HB6 HX7 HB7
    go_upto_region 14 with fail
    change Code.wp _ _ _ _ (w7.alloc (.cells #[.slice A7 ls.length c7] 37 (0, 0)))
    generalize (w7.alloc (.cells #[.slice A7 ls.length c7] 37 (0, 0))) = w8 at *
    generalize w7.heap.size = b14 at *
    have q0 := blk_cell HX8.out 0
    have ql := blk_lt HX8.out
    have r0 := blk_cell HN8.out 0
    have rl := blk_lt HN8.out
    simp only [List.getElem?_toArray, List.getElem?_cons_zero] at q0 r0
    go_wp2_with fail
    refine (Num_any 0 w8).mono ?_; rintro e w8 ⟨rfl, rfl⟩
    go_wp2_with fail
    refine HSI.out.mono ?_; rintro e w9 ⟨rfl, hb⟩
    have HB9 : Hid (Below w.heap.size w w9) := HB8.out.trans (hb.mono HB8.out.size)
    go_wp2_with fail
    go_ret
    exact ⟨rfl, HB9.out⟩
  · have ht := HEN.out hk
    subst ht
    have hb1 : (k2 != 0) = true := by simp [bne, hk]
    clear HED HEN hk
    go_wp2_with fail
    go_ret
    exact ⟨rfl, HB6.out⟩
end Go.Proofs.Ytifhnpkapgaboaa.arch
