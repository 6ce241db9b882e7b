/-
  Proved: what strings.ContainsAny gives for the bytes 47 and 0; what path.Name gives. Conditions: as each theorem says.
-/
import Derived.Test.YtifhnpkapgaboaaPathRune
import Derived.Lib.OthersKept
import Derived.Lib.IndexAny
namespace Go.Proofs.Ytifhnpkapgaboaa.path
open Go.RowKit
open heap
set_option linter.unusedVariables false
abbrev sv (l : List UInt8) : Value := .string ⟨l.toArray⟩

theorem iterAt_heap {w : World} {k : Nat} {s : ByteArray} {p q : Nat} (h : w.heap[k]? = some (.stringIter s p)) : (w.iterAt k s q).heap[k]? = some (.stringIter s q) := by
  have := blk_lt h
  simp [World.iterAt, this]
theorem iterAt_below {w0 w : World} {k : Nat} {s : ByteArray} {q : Nat} (h : Below w0.heap.size w0 w) (hk : w0.heap.size ≤ k) : Below w0.heap.size w0 (w.iterAt k s q) :=
  ⟨h.os, h.tape, h.output, by simp [World.iterAt]; exact h.size, fun i hi => by
    rw [← h.block i hi]
    show (w.heap.setIfInBounds k _)[i]? = _
    rw [Array.getElem?_setIfInBounds_ne (by omega)]⟩
theorem two_in (x : UInt8) : ([47, 0] : List UInt8).contains x = true ↔ x = 47 ∨ x = 0 := by simp
theorem ix_yes {x : UInt8} (h : x = 47 ∨ x = 0) : 0 ≤ Lib.indexByte [47, 0] x ∧ Lib.indexByte [47, 0] x ≤ 1 := by rcases h with rfl | rfl <;> decide
theorem ix_no {x : UInt8} (h : ¬ (x = 47 ∨ x = 0)) : Lib.indexByte [47, 0] x = -1 := by
  rw [not_or] at h
  have h1 : ((47 : UInt8) == x) = false := by rw [beq_eq_false_iff_ne]; exact fun e => h.1 e.symm
  have h2 : ((0 : UInt8) == x) = false := by rw [beq_eq_false_iff_ne]; exact fun e => h.2 e.symm
  simp [Lib.indexByte, h1, h2]
set_option maxRecDepth 100000 in
set_option maxHeartbeats 1000000 in
theorem IndexAny_short (s : ByteArray) (w : World) (h8 : s.size ≤ 8) :
    Calls Try.prog 139 #[.string s, .string ⟨#[47, 0]⟩] w fun e w' => e = .returned (.int .i64 (Lib.indexAny s.data.toList [47, 0])) ∧ Below w.heap.size w w' := by
  have d8 : decide ((8 : Int) < (s.size : Int)) = false := by simp; omega
  have HU := Lib.hid (fun W : World => Try.strings_shouldUseASCIISet (s.size : Int) W)
  go_enter Try.func139, Try.ntmps139
  go_wp2_with fail
  (with_reducible refine (HU.out _).mono ?_); rintro e w1 ⟨rfl, rfl⟩
  rw [d8]
  go_wp2_with fail
  go_loopw [9, 10] (fun _ _ wr => ∃ i : Nat, i ≤ s.size ∧ Hid (wr.heap[w1.heap.size]? = some (.stringIter s i) ∧ Below w1.heap.size w1 wr ∧ Lib.NoAny s.data.toList [47, 0] i)) (fun _ _ wr => s.size - wr.iterPos w1.heap.size)
  case atStart => exact ⟨0, by omega, World.iter_heap _ _ _, (Below.refl _ _).alloc (Nat.le_refl _) _, Lib.NoAny.zero _ _⟩
  case round =>
    obtain ⟨i, hi, HI⟩ := hrel
    obtain ⟨hk, hb, hno⟩ := HI.out
    have HIP : Hid (wr.iterPos w1.heap.size = i) := by rw [Hid, World.iterPos, hk]
    by_cases hlt : i < s.size
    · have hgl : s.data.toList[i]? = some (s[i]'hlt) := Lib.data_getElem? s i hlt
      have HG := Lib.hid hgl
      by_cases ha : (s[i]'hlt).toNat < 128
      · have hnx := fun ty => Lib.run_next_ascii_at (P := Try.prog) wr w1.heap.size s i ty hk hlt ha
        have HR := Lib.hid (fun W : World => Try.strings_IndexRune_ascii ⟨#[47, 0]⟩ ((s[i]'hlt).toNat : Int) W (by omega) (by omega))
        have HUX : Hid ((((s[i]'hlt).toNat : Int)).toNat.toUInt8 = s[i]'hlt) := by simp [Hid]
        have HK2 : Hid ((wr.iterAt w1.heap.size s (i + 1)).heap[w1.heap.size]? = some (.stringIter s (i + 1))) := iterAt_heap hk
        have HB2 : Hid (Below w1.heap.size w1 (wr.iterAt w1.heap.size s (i + 1))) := iterAt_below hb (Nat.le_refl _)
        have HP2 : Hid ((wr.iterAt w1.heap.size s (i + 1)).iterPos w1.heap.size = i + 1) := by rw [Hid, World.iterPos, HK2.out]
        have hgx : s[i]'hlt = s[i]'hlt := rfl
        generalize hx : s[i]'hlt = x at *
        have HX := Lib.hid hx
        clear hk hb hno hgl hx hgx
        by_cases hin : x = 47 ∨ x = 0
        · have hI := ix_yes hin
          have HF : Hid (Lib.indexAny s.data.toList [47, 0] = i) := Lib.indexAny_hit HI.out.2.2 HG.out ((two_in x).2 hin)
          generalize hz : Lib.indexByte [47, 0] x = z at *
          have HZ := Lib.hid hz
          clear hin hz
          go_wp2_with fail
          (with_reducible refine (HR.out _).mono ?_); rintro e w3 ⟨rfl, rfl⟩
          rw [HUX.out, HZ.out]
          go_wp2_with fail
          go_ret
          exact ⟨by rw [HF.out]; rfl, HB2.out⟩
        · have HI1 := Lib.hid (ix_no hin)
          have HN : Hid (Lib.NoAny s.data.toList [47, 0] (i + 1)) := Lib.NoAny.succ HI.out.2.2 HG.out (by
            cases hc : ([47, 0] : List UInt8).contains x with
            | false => rfl
            | true => exact absurd ((two_in x).1 hc) hin)
          clear hin
          go_wp2_with fail
          (with_reducible refine (HR.out _).mono ?_); rintro e w3 ⟨rfl, rfl⟩
          rw [HUX.out, HI1.out]
          go_wp2_with fail
          go_roundw
          case rel => exact ⟨i + 1, by omega, HK2.out, HB2.out, HN.out⟩
          case measure => rw [HP2.out, HIP.out]; omega
      · have hnx := fun ty => Lib.run_next_any_at (P := Try.prog) wr w1.heap.size s i ty hk hlt
        obtain ⟨hd1, hd2⟩ := decode_high s i hlt (by omega)
        obtain ⟨hd3, hd4⟩ := decode_wide s i hlt (by omega)
        have HD4 := Lib.hid hd4
        generalize hdec : Utf8.decode s i = d at *
        obtain ⟨r, wd⟩ := d
        simp only at hd1 hd2 hd3 hd4 hnx
        have hend : i + wd ≤ s.size := by
          obtain ⟨hj, _⟩ := hd4 (wd - 1) (by omega)
          omega
        have HN : Hid (Lib.NoAny s.data.toList [47, 0] (i + wd)) := fun j b hj hb => by
          by_cases hji : j < i
          · exact hno j b hji hb
          · obtain ⟨hq, h128⟩ := hd4 (j - i) (by omega)
            have hjs : j < s.size := by omega
            have e : s[i + (j - i)]'hq = s[j]'hjs := by congr 1; omega
            rw [e] at h128
            have hbx : s.data.toList[j]? = some (s[j]'hjs) := Lib.data_getElem? s j hjs
            rw [hbx] at hb
            cases hb
            cases hc : ([47, 0] : List UInt8).contains (s[j]'hjs) with
            | false => rfl
            | true =>
              rcases (two_in _).1 hc with h | h <;> (rw [h] at h128; exact absurd h128 (by decide))
        have HR := Lib.hid (fun W : World => rune_high (r : Int) W (by omega) (by omega))
        have HK2 : Hid ((wr.iterAt w1.heap.size s (i + wd)).heap[w1.heap.size]? = some (.stringIter s (i + wd))) := iterAt_heap hk
        have HB2 : Hid (Below w1.heap.size w1 (wr.iterAt w1.heap.size s (i + wd))) := iterAt_below hb (Nat.le_refl _)
        clear hk hb hno hgl hd4 hdec HD4
        go_wp2_with fail
        (with_reducible refine (HR.out _).mono ?_); rintro e w3 ⟨rfl, hb3⟩
        have HK3 := Lib.hid (blk_below HK2.out hb3)
        have HB3 : Hid (Below w1.heap.size w1 w3) := HB2.out.trans (hb3.mono HB2.out.size)
        have HP3 : Hid (w3.iterPos w1.heap.size = i + wd) := by rw [Hid, World.iterPos, HK3.out]
        clear hb3
        go_wp2_with fail
        go_roundw
        case rel => exact ⟨i + wd, by omega, HK3.out, HB3.out, HN.out⟩
        case measure => rw [HP3.out, HIP.out]; omega
    · obtain rfl : i = s.size := by omega
      have hnx := fun ty => Lib.run_next_end_at (P := Try.prog) wr w1.heap.size s s.size ty hk (by omega)
      have HF : Hid (Lib.indexAny s.data.toList [47, 0] = -1) := Lib.indexAny_none (by rw [← Lib.size_eq]; exact hno)
      clear hk hb hno
      go_wp2_with fail
      go_ret
      exact ⟨by rw [HF.out]; rfl, HI.out.2.1⟩
theorem zero61 : (Try.prog.info? 180).map (fun i => (i.zero, i.size)) = some (some (.agg (Array.replicate 256 (.bool false))), 256) := by kernel_rfl
theorem IndexAny_all (s : ByteArray) (w : World) (h : s.size ≤ 16) :
    Calls Try.prog 139 #[.string s, .string ⟨#[47, 0]⟩] w fun e w' => e = .returned (.int .i64 (Lib.indexAny s.data.toList [47, 0])) ∧ Below w.heap.size w w' := by
  by_cases h8 : s.size ≤ 8
  · exact IndexAny_short s w h8
  · refine (Try.strings_IndexAny_long (fun W => by kernel_rfl) s ⟨#[47, 0]⟩ w (by decide) (by omega) (by omega) (by decide) (fun j b hb => ?_)).mono ?_
    · match j, hb with
      | 0, hb => cases hb; decide
      | 1, hb => cases hb; decide
    · rintro e w' ⟨rfl, rfl⟩
      exact ⟨rfl, ((Below.refl _ _).alloc (Nat.le_refl _) _).alloc (by simp) _⟩
theorem any_iff (l : List UInt8) : (0 ≤ Lib.indexAny l [47, 0]) ↔ ((47 : UInt8) ∈ l ∨ (0 : UInt8) ∈ l) := by
  induction l with
  | nil => simp [Lib.indexAny]
  | cons c r ih =>
    have hge := Lib.indexAny_ge [47, 0] r
    unfold Lib.indexAny
    by_cases hc : ([47, 0] : List UInt8).contains c = true
    · rw [if_pos hc]
      rcases (two_in c).1 hc with rfl | rfl <;> simp
    · rw [if_neg hc]
      have hn : ¬ (c = 47 ∨ c = 0) := fun h => hc ((two_in c).2 h)
      rw [not_or] at hn
      have e1 : ((47 : UInt8) ∈ c :: r) ↔ (47 : UInt8) ∈ r := by rw [List.mem_cons]; exact ⟨fun h => h.resolve_left (fun e => hn.1 e.symm), .inr⟩
      have e2 : ((0 : UInt8) ∈ c :: r) ↔ (0 : UInt8) ∈ r := by rw [List.mem_cons]; exact ⟨fun h => h.resolve_left (fun e => hn.2 e.symm), .inr⟩
      rw [e1, e2, ← ih]
      split
      · rename_i h; rw [beq_iff_eq] at h; omega
      · rename_i h; simp at h; omega
set_option maxRecDepth 100000 in
theorem ContainsAny_all (l : List UInt8) (w : World) (h : l.length ≤ 16) :
    Calls Try.prog 132 #[sv l, .string ⟨#[47, 0]⟩] w fun e w' => e = .returned (.bool (decide ((47 : UInt8) ∈ l ∨ (0 : UInt8) ∈ l))) ∧ Below w.heap.size w w' := by
  have HI := Lib.hid (fun W : World => IndexAny_all ⟨l.toArray⟩ W (by rw [str_size]; exact h))
  have HA : Hid (decide (0 ≤ Lib.indexAny l [47, 0]) = decide ((47 : UInt8) ∈ l ∨ (0 : UInt8) ∈ l)) := by rw [Hid, decide_eq_decide]; exact any_iff l
  have hD : (⟨l.toArray⟩ : ByteArray).data.toList = l := by simp
  rw [hD] at HI
  clear h hD
  generalize Lib.indexAny l [47, 0] = z at *
  go_enter Try.func132, Try.ntmps132
  go_wp2_with fail
  (with_reducible refine (HI.out _).mono ?_); rintro e w1 ⟨rfl, hb1⟩
  have HB := Lib.hid hb1
  clear hb1
  go_wp2
  go_ret
  exact ⟨by rw [← HA.out]; rfl, HB.out⟩
set_option maxRecDepth 100000 in
set_option maxHeartbeats 1000000 in
theorem Name_any (l : List UInt8) (w : World) (hs : l.length ≤ 9223372036854775807) :
    Calls Try.prog 119 #[sv l] w fun e w' => e = .returned (.int .i64 (nameE l)) ∧ Below w.heap.size w w' := by
  have z := str_size l
  by_cases h0 : l = []
  · subst h0
    go_enter Try.func119, Try.ntmps119
    go_wp2
    go_ret
    exact ⟨rfl, Below.refl _ _⟩
  · have b0 : l.isEmpty = false := by cases l <;> simp_all
    have b0' : (l == []) = false := by rw [beq_eq_false_iff_ne]; exact h0
    by_cases h1 : 16 < l.length
    · have HN : Hid (nameE l = 401) := by rw [Hid, nameE, if_neg h0, if_pos (.inl h1)]
      clear h0
      go_enter Try.func119, Try.ntmps119
      go_wp2
      go_ret
      exact ⟨by rw [HN.out]; rfl, Below.refl _ _⟩
    · by_cases h2 : l = [46]
      · subst h2
        go_enter Try.func119, Try.ntmps119
        go_wp2
        go_ret
        exact ⟨rfl, Below.refl _ _⟩
      · by_cases h3 : l = [46, 46]
        · subst h3
          go_enter Try.func119, Try.ntmps119
          go_wp2
          go_ret
          exact ⟨rfl, Below.refl _ _⟩
        · have b2 : (l == [46]) = false := by rw [beq_eq_false_iff_ne]; exact h2
          have b3 : (l == [46, 46]) = false := by rw [beq_eq_false_iff_ne]; exact h3
          have HC := Lib.hid (fun W : World => ContainsAny_all l W (by omega))
          by_cases h4 : (47 : UInt8) ∈ l ∨ (0 : UInt8) ∈ l
          · have HN : Hid (nameE l = 401) := by rw [Hid, nameE, if_neg h0, if_pos (.inr (.inr (.inr h4)))]
            rw [decide_eq_true h4] at HC
            clear h0 h2 h3 h4
            go_enter Try.func119, Try.ntmps119
            go_wp2_with fail
            (with_reducible refine (HC.out _).mono ?_); rintro e w1 ⟨rfl, hb1⟩
            go_wp2
            go_ret
            exact ⟨by rw [HN.out]; rfl, hb1⟩
          · have HN : Hid (nameE l = 0) := by rw [Hid, nameE, if_neg h0, if_neg (fun h => h.elim h1 (fun h => h.elim h2 (fun h => h.elim h3 h4)))]
            rw [decide_eq_false h4] at HC
            clear h0 h2 h3 h4
            go_enter Try.func119, Try.ntmps119
            go_wp2_with fail
            (with_reducible refine (HC.out _).mono ?_); rintro e w1 ⟨rfl, hb1⟩
            go_wp2
            go_ret
            exact ⟨by rw [HN.out]; rfl, hb1⟩
end Go.Proofs.Ytifhnpkapgaboaa.path
