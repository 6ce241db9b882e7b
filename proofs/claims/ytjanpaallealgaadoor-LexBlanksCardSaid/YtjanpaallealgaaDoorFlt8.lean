/-
  Proved: what digits and decimal return. Conditions: as each theorem says.
-/
import Derived.Test.YtjanpaallealgaaDoorFlt6
import Derived.Test.YtjanpaallealgaaDoorFltCut
import Derived.Test.YtjanpaallealgaaDoorBytes
import Derived.Shelf.Strings.SlTrimAscii
namespace Go.Proofs.YtjanpaallealgaaDoor.flt
open Go.RowKit Ieee
open num (ret_pair)
open row (RowIs byteV)
set_option linter.unusedVariables false
set_option maxRecDepth 100000

def isD (c : UInt8) : Bool := decide (48 ≤ c.toNat) && decide (c.toNat ≤ 57)
def digB (l : List UInt8) : Bool := !l.isEmpty && l.all isD
def tenS : List UInt8 := [48, 49, 50, 51, 52, 53, 54, 55, 56, 57]
theorem tenS_isD (c : UInt8) : tenS.contains c = isD c := by
  have h : ∀ n : Fin 256, tenS.contains (UInt8.ofNat n.val) = isD (UInt8.ofNat n.val) := by decide +kernel
  have := h ⟨c.toNat, c.toNat_lt⟩
  simpa using this
theorem dropWhile_nil {p : UInt8 → Bool} {l : List UInt8} : l.dropWhile p = [] ↔ l.all p = true := by
  induction l with
  | nil => simp
  | cons c r ih =>
    rw [List.dropWhile_cons, List.all_cons]
    cases h : p c
    · simp
    · simpa using ih
theorem dropWhile_head {p : UInt8 → Bool} {l : List UInt8} (c : UInt8) (r : List UInt8) (h : l.dropWhile p = c :: r) : p c = false := by
  induction l with
  | nil => cases h
  | cons x t ih =>
    rw [List.dropWhile_cons] at h
    cases hx : p x
    · rw [hx] at h; simp at h; rw [← h.1]; exact hx
    · rw [hx] at h; simp at h; exact ih h
theorem trim_nil (l : List UInt8) : Lib.trimS l tenS = [] ↔ l.all isD = true := by
  have hp : (fun c => tenS.contains c) = isD := funext tenS_isD
  unfold Lib.trimS Lib.trimLeftS Lib.trimRightS
  rw [dropWhile_nil]
  show List.all _ (fun c => tenS.contains c) = true ↔ _
  rw [hp, List.all_reverse]
  constructor
  · intro h
    cases hd : l.reverse.dropWhile isD with
    | nil =>
      rw [dropWhile_nil, List.all_reverse] at hd
      exact hd
    | cons c r =>
      have h1 := dropWhile_head c r hd
      rw [hd, List.all_cons, h1] at h
      cases h
  · intro h
    have : l.reverse.dropWhile isD = [] := by rw [dropWhile_nil, List.all_reverse]; exact h
    rw [this]; rfl
theorem Trim_ten (l : List UInt8) (w : World) (hs : l.length ≤ 9223372036854775807) :
    Calls Tryd.prog 53 #[.string ⟨l.toArray⟩, .string ⟨#[48, 49, 50, 51, 52, 53, 54, 55, 56, 57]⟩] w fun e w' => e = .returned (.string ⟨(Lib.trimS l tenS).toArray⟩) ∧ Below w.heap.size w w' :=
  Go.Proofs.Any.strings_Trim_laid Tryd.lays160 (by kernel_rfl) ⟨l.toArray⟩ ⟨#[48, 49, 50, 51, 52, 53, 54, 55, 56, 57]⟩ w (by rw [str_size]; exact hs) (by decide) (Go.Proofs.ascii_of_all (by decide))
theorem digits_any (l : List UInt8) (w : World) (hs : l.length ≤ 9223372036854775807) :
    Calls Tryd.prog 40 #[.string ⟨l.toArray⟩] w fun e w' => e = .returned (.bool (digB l)) ∧ Below w.heap.size w w' := by
  have HT := Lib.hid (fun W => Trim_ten l W hs)
  have ht := trim_nil l
  unfold digB
  cases hl : l with
  | nil =>
    subst hl
    clear HT ht hs
    go_enter Tryd.func40, Tryd.ntmps40
    go_wp2_with fail
    go_ret
    exact ⟨rfl, Below.refl _ _⟩
  | cons c r =>
    have hne : l.isEmpty = false := by rw [hl]; rfl
    rw [← hl]
    generalize Lib.trimS l tenS = R at *
    generalize l.all isD = A at *
    have hS : (!(⟨l.toArray⟩ : ByteArray).toList.isEmpty) = true := by
      rw [Lib.toList_data]; simp [hl]
    have hS2 : ¬ (⟨l.toArray⟩ : ByteArray).toList = [] := by rw [Lib.toList_data]; simp [hl]
    have HA : Hid (A = R.isEmpty) := by
      rw [Hid, Bool.eq_iff_iff, ← ht, List.isEmpty_iff]
    rw [hne]
    clear ht hs hne hl
    generalize (⟨l.toArray⟩ : ByteArray) = S at *
    cases R with
    | nil =>
      go_enter Tryd.func40, Tryd.ntmps40
      go_wp2_with (go_at_call 53; refine (HT.out _).mono ?_; rintro e w1 ⟨rfl, hb⟩)
      go_ret
      exact ⟨ret_b (by rw [HA.out]; rfl), hb⟩
    | cons x t =>
      have hR : (⟨(x :: t).toArray⟩ : ByteArray).toList.isEmpty = false := by rw [Lib.toList_data]; rfl
      have hR2 : ¬ (⟨(x :: t).toArray⟩ : ByteArray).toList = [] := by rw [Lib.toList_data]; simp
      generalize (⟨(x :: t).toArray⟩ : ByteArray) = RR at *
      go_enter Tryd.func40, Tryd.ntmps40
      go_wp2_with (go_at_call 53; refine (HT.out _).mono ?_; rintro e w1 ⟨rfl, hb⟩)
      go_ret
      exact ⟨ret_b (by rw [HA.out]; simp_all), hb⟩
/-- The number that a row of digits is. -/
def numL (l : List UInt8) : Nat := l.foldl (fun x c => x * 10 + (c.toNat - 48)) 0
theorem numL_snoc (l : List UInt8) (c : UInt8) : numL (l ++ [c]) = numL l * 10 + (c.toNat - 48) := by unfold numL; rw [List.foldl_append]; rfl
theorem numL_lt (l : List UInt8) (h : l.all isD = true) : numL l < 10 ^ l.length := by
  generalize hn : l.length = n
  induction n generalizing l with
  | zero => rw [List.length_eq_zero_iff.1 hn]; decide
  | succ n ih =>
    rcases List.eq_nil_or_concat l with rfl | ⟨r, c, rfl⟩
    · cases hn
    · rw [List.concat_eq_append] at *
      rw [numL_snoc]
      rw [List.all_append, Bool.and_eq_true] at h
      have h1 := ih r h.1 (by simpa using hn)
      have h2 : isD c = true := by simpa using h.2
      unfold isD at h2
      simp only [Bool.and_eq_true, decide_eq_true_iff] at h2
      rw [Nat.pow_succ]
      omega
def decOk (f b : List UInt8) (pt : Bool) : Bool := digB f && (!pt || digB b) && decide (f.length + b.length ≤ 15)
def decQ (f b : List UInt8) : Nat := (fop .quo (fl (numL (f ++ b))) (fl (10 ^ b.length))).getD 0
def decV (f b : List UInt8) (pt : Bool) : Nat := if decOk f b pt then decQ f b else 0
theorem ten_fl : (4621819117588971520 : Nat) = fl 10 := by decide +kernel
theorem zero_fl : (0 : Nat) = fl 0 := by decide +kernel
theorem one_fl : (4607182418800017408 : Nat) = fl 1 := by decide +kernel
theorem quot_num (s t : Bool) (m n : Nat) (i j : Int) (hn : n ≠ 0) : ∃ M P, (Datum.number s m i).quotient 54 (.number t n j) = some (.number (s ^^ t) M P) := by
  simp only [Datum.quotient, hn, if_false]
  exact ⟨_, _, rfl⟩
theorem quo_some (a b : Nat) (ha : fin a) (hb : b < INF) (h0 : 0 < b) : ∃ r, fop .quo a b = some r ∧ r < 18446744073709551616 := by
  have hs : sg b ≠ 0 := by
    intro h
    have := mg_lt h0
    rw [← mg_def b, h, Nat.zero_mul] at this
    omega
  obtain ⟨M, P, h⟩ := quot_num (sgn a) false (sg (rung a)) (sg b) (-1074 + (pl (rung a) : Nat)) (-1074 + (pl b : Nat)) hs
  rw [← read_fin a ha, ← pread b hb] at h
  have h2 : fop .quo a b = some (double.nearest (sgn a ^^ false) M P) := by
    show ((double.read a).quotient 54 (double.read b)).map double.write = _
    rw [h]
    rfl
  exact ⟨_, h2, fop_lt h2⟩
theorem fl_pos (n : Nat) (h0 : 0 < n) (h : n ≤ 9007199254740992) : fl n < INF ∧ 0 < fl n := by
  have h1 := fin_fl n h
  have h2 := sgn_fl n
  have h3 : fl n < INF := by
    have := h1.2
    unfold rung at this
    unfold sgn at h2
    have h4 := of_decide_eq_false h2
    unfold INF
    omega
  refine ⟨h3, ?_⟩
  rcases Nat.eq_zero_or_pos (fl n) with h4 | h4
  · exfalso
    have := val_fl n h
    rw [h4] at this
    have h5 : val 0 = 0 := by unfold val rung; rw [Nat.zero_mod, mg_zero]; split <;> rfl
    rw [h5] at this
    have h6 : 0 < n * 2 ^ PP := Nat.mul_pos h0 (Nat.two_pow_pos _)
    omega
  · exact h4
/-- The loop's round. -/
def DecAt (L : List UInt8) (p k : Nat) (x y : Value) : Prop := k ≤ L.length ∧ x = fv (fl (numL (L.take k))) ∧ y = fv (fl (10 ^ (k - p)))
theorem pow_le15 (k : Nat) (h : k ≤ 15) : 10 ^ k ≤ 1000000000000000 := by
  have : 10 ^ k ≤ 10 ^ 15 := Nat.pow_le_pow_right (by omega) h
  exact this
theorem decimal_no (S : ByteArray) (f b : List UInt8) (pt : Bool) (w : World) (hf : f.length ≤ 1000000000000000000) (hb : b.length ≤ 1000000000000000000)
    (HC : Hid (∀ W, Calls Tryd.prog 39 #[.string S, .string ⟨#[46]⟩] W fun e w' => e = .returned (.tuple #[.string ⟨f.toArray⟩, .string ⟨b.toArray⟩, .bool pt]) ∧ Below W.heap.size W w'))
    (hok : decOk f b pt = false) : Calls Tryd.prog 25 #[.string S] w fun e w' => e = .returned (.tuple #[fv 0, .bool false]) ∧ Below w.heap.size w w' := by
  have HF := Lib.hid (fun W => digits_any f W (by omega))
  have HB := Lib.hid (fun W => digits_any b W (by omega))
  unfold decOk at hok
  have z1 : (⟨f.toArray⟩ : ByteArray).size = f.length := str_size f
  have z2 : (⟨b.toArray⟩ : ByteArray).size = b.length := str_size b
  cases h1 : digB f
  · rw [h1] at HF
    clear hok h1 HB z1 z2
    go_enter Tryd.func25, Tryd.ntmps25
    go_wp2_with (first | (go_at_call 39; refine (HC.out _).mono ?_; rintro e w1 ⟨rfl, hb1⟩) | (go_at_call 40; refine (HF.out _).mono ?_; rintro e w2 ⟨rfl, hb2⟩))
    go_ret2
    exact ⟨rfl, hb1.trans (hb2.mono hb1.size)⟩
  · rw [h1, Bool.true_and] at hok
    rw [h1] at HF
    cases pt
    · have hl : 15 < f.length + b.length := by
        have := hok
        simp at this
        omega
      have hd : decide (15 < ((⟨f.toArray⟩ : ByteArray).size : Int) + ((⟨b.toArray⟩ : ByteArray).size : Int)) = true := by rw [z1, z2]; exact decide_eq_true (by omega)
      have zz1 : (⟨f.toArray⟩ : ByteArray).size ≤ 1000000000000000000 := by omega
      have zz2 : (⟨b.toArray⟩ : ByteArray).size ≤ 1000000000000000000 := by omega
      clear hok h1 z1 z2 hl HB
      generalize (⟨f.toArray⟩ : ByteArray) = F at *
      generalize (⟨b.toArray⟩ : ByteArray) = B at *
      go_enter Tryd.func25, Tryd.ntmps25
      go_wp2_with (first | (go_at_call 39; refine (HC.out _).mono ?_; rintro e w1 ⟨rfl, hb1⟩) | (go_at_call 40; refine (HF.out _).mono ?_; rintro e w2 ⟨rfl, hb2⟩))
      go_ret2
      exact ⟨rfl, hb1.trans (hb2.mono hb1.size)⟩
    · cases h2 : digB b
      · rw [h2] at HB
        clear hok h1 h2 z1 z2
        generalize (⟨f.toArray⟩ : ByteArray) = F at *
        generalize (⟨b.toArray⟩ : ByteArray) = B at *
        go_enter Tryd.func25, Tryd.ntmps25
        go_wp2_with (go_at_call 39; refine (HC.out _).mono ?_; rintro e w1 ⟨rfl, hb1⟩)
        refine (HF.out _).mono ?_; rintro e w2 ⟨rfl, hb2⟩
        go_wp2_with fail
        refine (HB.out _).mono ?_; rintro e w3 ⟨rfl, hb3⟩
        go_wp2_with fail
        go_ret2
        exact ⟨rfl, (hb1.trans (hb2.mono hb1.size)).trans (hb3.mono (Nat.le_trans hb1.size hb2.size))⟩
      · have hl : 15 < f.length + b.length := by
          have := hok
          rw [h2] at this
          simp at this
          omega
        rw [h2] at HB
        have hd : decide (15 < ((⟨f.toArray⟩ : ByteArray).size : Int) + ((⟨b.toArray⟩ : ByteArray).size : Int)) = true := by rw [z1, z2]; exact decide_eq_true (by omega)
        have zz1 : (⟨f.toArray⟩ : ByteArray).size ≤ 1000000000000000000 := by omega
        have zz2 : (⟨b.toArray⟩ : ByteArray).size ≤ 1000000000000000000 := by omega
        clear hok h1 h2 z1 z2 hl
        generalize (⟨f.toArray⟩ : ByteArray) = F at *
        generalize (⟨b.toArray⟩ : ByteArray) = B at *
        go_enter Tryd.func25, Tryd.ntmps25
        go_wp2_with (go_at_call 39; refine (HC.out _).mono ?_; rintro e w1 ⟨rfl, hb1⟩)
        refine (HF.out _).mono ?_; rintro e w2 ⟨rfl, hb2⟩
        go_wp2_with fail
        refine (HB.out _).mono ?_; rintro e w3 ⟨rfl, hb3⟩
        go_wp2_with fail
        go_ret2
        exact ⟨rfl, (hb1.trans (hb2.mono hb1.size)).trans (hb3.mono (Nat.le_trans hb1.size hb2.size))⟩
theorem isD_at {L : List UInt8} (h : L.all isD = true) (k : Nat) (hk : k < L.length) : 48 ≤ (L.getD k 0).toNat ∧ (L.getD k 0).toNat ≤ 57 := by
  have h1 : isD (L.getD k 0) = true := by
    rw [List.all_eq_true] at h
    apply h
    rw [List.getD_eq_getElem?_getD, List.getElem?_eq_getElem hk]
    exact List.getElem_mem hk
  unfold isD at h1
  simpa using h1
theorem take_getD (L : List UInt8) (k : Nat) (hk : k < L.length) : L.take (k + 1) = L.take k ++ [L.getD k 0] := by
  rw [List.take_succ_eq_append_getElem hk, List.getD_eq_getElem?_getD, List.getElem?_eq_getElem hk]
  rfl
theorem numL_bd (L : List UInt8) (h : L.all isD = true) (hl : L.length ≤ 15) (k : Nat) (hk : k ≤ L.length) : numL (L.take k) < 1000000000000000 := by
  have h1 : (L.take k).all isD = true := by
    rw [List.all_eq_true] at h ⊢
    exact fun x hx => h x (List.mem_of_mem_take hx)
  have h2 := numL_lt _ h1
  rw [List.length_take, Nat.min_eq_left hk] at h2
  have := pow_le15 k (by omega)
  omega
theorem numL_bd14 (L : List UInt8) (h : L.all isD = true) (hl : L.length ≤ 15) (k : Nat) (hk : k < L.length) : numL (L.take k) < 100000000000000 := by
  have h1 : (L.take k).all isD = true := by
    rw [List.all_eq_true] at h ⊢
    exact fun x hx => h x (List.mem_of_mem_take hx)
  have h2 := numL_lt _ h1
  rw [List.length_take, Nat.min_eq_left (by omega)] at h2
  have : 10 ^ k ≤ 10 ^ 14 := Nat.pow_le_pow_right (by omega) (by omega)
  omega
set_option maxHeartbeats 1000000 in
theorem decimal_yes (S : ByteArray) (f b : List UInt8) (pt : Bool) (w : World)
    (HC : Hid (∀ W, Calls Tryd.prog 39 #[.string S, .string ⟨#[46]⟩] W fun e w' => e = .returned (.tuple #[.string ⟨f.toArray⟩, .string ⟨b.toArray⟩, .bool pt]) ∧ Below W.heap.size W w'))
    (hp : pt = false → b = []) (hok : decOk f b pt = true) : Calls Tryd.prog 25 #[.string S] w fun e w' => e = .returned (.tuple #[fv (decQ f b), .bool true]) ∧ Below w.heap.size w w' := by
  unfold decOk at hok
  simp only [Bool.and_eq_true, decide_eq_true_iff, Bool.or_eq_true, Bool.not_eq_true'] at hok
  obtain ⟨⟨h1, h2⟩, h3⟩ := hok
  have HF := Lib.hid (fun W => digits_any f W (by omega))
  rw [h1] at HF
  have HB := Lib.hid (fun W => digits_any b W (by omega))
  have hall : (f ++ b).all isD = true := by
    rw [List.all_append, Bool.and_eq_true]
    unfold digB at h1 h2
    refine ⟨(Bool.and_eq_true_iff.1 h1).2, ?_⟩
    rcases h2 with h2 | h2
    · rw [hp h2]; rfl
    · exact (Bool.and_eq_true_iff.1 h2).2
  have hB2 : pt = true → digB b = true := fun e => h2.resolve_left (by rw [e]; exact Bool.noConfusion)
  have z1 : (⟨f.toArray⟩ : ByteArray).size = f.length := str_size f
  have z2 : (⟨b.toArray⟩ : ByteArray).size = b.length := str_size b
  have hd : decide (15 < ((⟨f.toArray⟩ : ByteArray).size : Int) + ((⟨b.toArray⟩ : ByteArray).size : Int)) = false := by rw [z1, z2]; exact decide_eq_false (by omega)
  have hcat : (⟨f.toArray⟩ : ByteArray) ++ ⟨b.toArray⟩ = ⟨(f ++ b).toArray⟩ := by
    apply ByteArray.ext
    apply Array.toList_inj.1
    simp [ByteArray.data_append]
  have zL := str_size (f ++ b)
  have hlen : (f ++ b).length = f.length + b.length := by simp
  obtain ⟨q, hq, hq64⟩ := quo_some (fl (numL (f ++ b))) (fl (10 ^ b.length)) (fin_fl _ (by have := numL_lt _ hall; rw [hlen] at this; have := pow_le15 (f.length + b.length) (by omega); omega))
    (fl_pos _ (Nat.pow_pos (by omega)) (by have := pow_le15 b.length (by omega); omega)).1 (fl_pos _ (Nat.pow_pos (by omega)) (by have := pow_le15 b.length (by omega); omega)).2
  have HQ := Lib.hid hq
  have HQ2 : Hid (decQ f b = q) := by unfold Hid decQ; rw [hq]; rfl
  have HL := Lib.hid hall
  have HZ := Lib.hid hlen
  have zz1 : (⟨f.toArray⟩ : ByteArray).size ≤ 15 := by omega
  have zz2 : (⟨b.toArray⟩ : ByteArray).size ≤ 15 := by omega
  have H15 : Hid (f.length + b.length ≤ 15) := h3
  have Hz1 := Lib.hid z1
  clear h1 h2 z1 z2 hall hlen hq hq64 hp
  generalize (⟨f.toArray⟩ : ByteArray) = F at *
  generalize (⟨b.toArray⟩ : ByteArray) = B at *
  generalize hS2 : (⟨(f ++ b).toArray⟩ : ByteArray) = SS at *
  have HS2 : Hid (SS.data.toList = f ++ b) := by unfold Hid; rw [← hS2]
  clear hS2
  generalize f ++ b = L at *
  have zLi : SS.size = L.length := zL
  clear zL h3
  cases pt
  · clear hB2 HB
    go_enter Tryd.func25, Tryd.ntmps25
    go_wp2_with (go_at_call 39; refine (HC.out _).mono ?_; rintro e w1 ⟨rfl, hb1⟩)
    refine (HF.out _).mono ?_; rintro e w3 ⟨rfl, hb2⟩
    have hbw : Below w.heap.size w w3 := hb1.trans (hb2.mono hb1.size)
    clear hb1 hb2
    obtain ⟨cap, w4, hconv, hcap, hrow, hbe⟩ := row.of_string w3 SS
    rw [HS2.out] at hrow
    have HR := Lib.hid hrow
    have HB4 : Hid (Below w.heap.size w w4) := hbw.trans (hbe.mono hbw.size)
    clear hbw hbe hrow
    generalize w3.heap.size = g at *
    go_wp2_with fail
    go_loop [7, 8, 41] (fun x y i => ∃ k : Nat, i = .int .i64 k ∧ DecAt L F.size k x y) (fun _ _ i => L.length - (intOf i).toNat)
    case atStart => exact ⟨0, rfl, Nat.zero_le _, congrArg fv zero_fl, by rw [Nat.zero_sub, Nat.pow_zero, ← one_fl]⟩
    case round =>
      obtain ⟨k, rfl, hk, rfl, rfl⟩ := hrel
      have hX := numL_bd L HL.out (by rw [HZ.out]; exact H15.out) k hk
      have hk15 : k ≤ 15 := Nat.le_trans hk (by rw [HZ.out]; exact H15.out)
      have hP := pow_le15 (k - F.size) (by omega)
      by_cases hlt : k < L.length
      · have hcell := HR.out.cell k hlt
        replace hX := numL_bd14 L HL.out (by rw [HZ.out]; exact H15.out) k hlt
        have hcd := isD_at HL.out k hlt
        have HT := Lib.hid (take_getD L k hlt)
        unfold row.byteV at hcell
        have HN := Lib.hid (numL_snoc (L.take k) (L.getD k 0))
        generalize L.getD k 0 = c at *
        generalize hX2 : numL (L.take k) = X at *
        have e1 : (c.toNat : Int) - 48 = ((c.toNat - 48 : Nat) : Int) := by omega
        have hfi : floatOfInt .f64 ((c.toNat : Int) - 48) = fl (c.toNat - 48) := by rw [e1, floatOfInt_nat]
        have hmul := fun W => run_float_arith (P := Tryd.prog) W .mul 28 .f64 (fl X) 4621819117588971520 (fl (X * 10)) (by rw [ten_fl]; exact mul_int X 10 (by omega) (by omega))
        have hadd := fun W => run_float_arith (P := Tryd.prog) W .add 28 .f64 (fl (X * 10)) (fl (c.toNat - 48)) (fl (X * 10 + (c.toNat - 48))) (add_int (X * 10) (c.toNat - 48) (by omega) (by omega))
        have hmul2 := fun W => run_float_arith (P := Tryd.prog) W .mul 28 .f64 (fl (10 ^ (k - F.size))) 4621819117588971520 (fl (10 ^ (k - F.size) * 10)) (by rw [ten_fl]; exact mul_int _ 10 (by omega) (by omega))
        have HX : Hid (fl (X * 10 + (c.toNat - 48)) = fl (numL (L.take (k + 1)))) := by rw [Hid, HT.out, HN.out]
        clear hX hP HN HT hX2 e1
        have hc1 := hcd.1
        have hc2 := hcd.2
        clear hcd
        by_cases hge : F.size ≤ k
        · have HY : Hid (fl (10 ^ (k - F.size) * 10) = fl (10 ^ (k + 1 - F.size))) := by
            rw [Hid, ← Nat.pow_succ]; congr 2; omega
          have hdg : decide (F.size ≤ k) = true := decide_eq_true hge
          generalize fl (10 ^ (k - F.size) * 10) = y2 at *
          generalize fl (10 ^ (k - F.size)) = y at *
          generalize fl (X * 10 + (c.toNat - 48)) = x2 at *
          generalize fl (c.toNat - 48) = d at *
          generalize fl (X * 10) = x1 at *
          generalize fl X = x at *
          clear hge
          go_wp2_with fail
          go_round
          case rel => exact ⟨k + 1, by go_num, by omega, by rw [HX.out], by rw [HY.out]⟩
          case measure => simp [intOf]; omega
        · have HY : Hid (fl (10 ^ (k - F.size)) = fl (10 ^ (k + 1 - F.size))) := by
            rw [Hid]; congr 2; omega
          have hdg : decide (F.size ≤ k) = false := decide_eq_false hge
          generalize fl (10 ^ (k - F.size)) = y at *
          generalize fl (X * 10 + (c.toNat - 48)) = x2 at *
          generalize fl (c.toNat - 48) = d at *
          generalize fl (X * 10) = x1 at *
          generalize fl X = x at *
          clear hge hmul2
          go_wp2_with fail
          go_round
          case rel => exact ⟨k + 1, by go_num, by omega, by rw [HX.out], by rw [HY.out]⟩
          case measure => simp [intOf]; omega
      · obtain rfl : k = L.length := by omega
        have e5 : L.length - F.size = b.length := by have := HZ.out; have := Hz1.out; omega
        have hquo := fun W => run_float_arith (P := Tryd.prog) W .quo 28 .f64 (fl (numL L)) (fl (10 ^ b.length)) q HQ.out
        rw [e5, List.take_length]
        generalize fl (numL L) = x at *
        generalize fl (10 ^ b.length) = y at *
        clear hX hP hk15 e5 HQ
        go_wp2_with fail
        go_ret2
        exact ⟨by rw [HQ2.out]; rfl, HB4.out⟩
  · rw [hB2 rfl] at HB
    clear hB2
    go_enter Tryd.func25, Tryd.ntmps25
    go_wp2_with (go_at_call 39; refine (HC.out _).mono ?_; rintro e w1 ⟨rfl, hb1⟩)
    refine (HF.out _).mono ?_; rintro e w2 ⟨rfl, hb2⟩
    go_wp2_with fail
    refine (HB.out _).mono ?_; rintro e w3 ⟨rfl, hb3⟩
    have hbw : Below w.heap.size w w3 := (hb1.trans (hb2.mono hb1.size)).trans (hb3.mono (Nat.le_trans hb1.size hb2.size))
    clear hb1 hb2 hb3
    obtain ⟨cap, w4, hconv, hcap, hrow, hbe⟩ := row.of_string w3 SS
    rw [HS2.out] at hrow
    have HR := Lib.hid hrow
    have HB4 : Hid (Below w.heap.size w w4) := hbw.trans (hbe.mono hbw.size)
    clear hbw hbe hrow
    generalize w3.heap.size = g at *
    go_wp2_with fail
    go_loop [7, 8, 41] (fun x y i => ∃ k : Nat, i = .int .i64 k ∧ DecAt L F.size k x y) (fun _ _ i => L.length - (intOf i).toNat)
    case atStart => exact ⟨0, rfl, Nat.zero_le _, congrArg fv zero_fl, by rw [Nat.zero_sub, Nat.pow_zero, ← one_fl]⟩
    case round =>
      obtain ⟨k, rfl, hk, rfl, rfl⟩ := hrel
      have hX := numL_bd L HL.out (by rw [HZ.out]; exact H15.out) k hk
      have hk15 : k ≤ 15 := Nat.le_trans hk (by rw [HZ.out]; exact H15.out)
      have hP := pow_le15 (k - F.size) (by omega)
      by_cases hlt : k < L.length
      · have hcell := HR.out.cell k hlt
        replace hX := numL_bd14 L HL.out (by rw [HZ.out]; exact H15.out) k hlt
        have hcd := isD_at HL.out k hlt
        have HT := Lib.hid (take_getD L k hlt)
        unfold row.byteV at hcell
        have HN := Lib.hid (numL_snoc (L.take k) (L.getD k 0))
        generalize L.getD k 0 = c at *
        generalize hX2 : numL (L.take k) = X at *
        have e1 : (c.toNat : Int) - 48 = ((c.toNat - 48 : Nat) : Int) := by omega
        have hfi : floatOfInt .f64 ((c.toNat : Int) - 48) = fl (c.toNat - 48) := by rw [e1, floatOfInt_nat]
        have hmul := fun W => run_float_arith (P := Tryd.prog) W .mul 28 .f64 (fl X) 4621819117588971520 (fl (X * 10)) (by rw [ten_fl]; exact mul_int X 10 (by omega) (by omega))
        have hadd := fun W => run_float_arith (P := Tryd.prog) W .add 28 .f64 (fl (X * 10)) (fl (c.toNat - 48)) (fl (X * 10 + (c.toNat - 48))) (add_int (X * 10) (c.toNat - 48) (by omega) (by omega))
        have hmul2 := fun W => run_float_arith (P := Tryd.prog) W .mul 28 .f64 (fl (10 ^ (k - F.size))) 4621819117588971520 (fl (10 ^ (k - F.size) * 10)) (by rw [ten_fl]; exact mul_int _ 10 (by omega) (by omega))
        have HX : Hid (fl (X * 10 + (c.toNat - 48)) = fl (numL (L.take (k + 1)))) := by rw [Hid, HT.out, HN.out]
        clear hX hP HN HT hX2 e1
        have hc1 := hcd.1
        have hc2 := hcd.2
        clear hcd
        by_cases hge : F.size ≤ k
        · have HY : Hid (fl (10 ^ (k - F.size) * 10) = fl (10 ^ (k + 1 - F.size))) := by
            rw [Hid, ← Nat.pow_succ]; congr 2; omega
          have hdg : decide (F.size ≤ k) = true := decide_eq_true hge
          generalize fl (10 ^ (k - F.size) * 10) = y2 at *
          generalize fl (10 ^ (k - F.size)) = y at *
          generalize fl (X * 10 + (c.toNat - 48)) = x2 at *
          generalize fl (c.toNat - 48) = d at *
          generalize fl (X * 10) = x1 at *
          generalize fl X = x at *
          clear hge
          go_wp2_with fail
          go_round
          case rel => exact ⟨k + 1, by go_num, by omega, by rw [HX.out], by rw [HY.out]⟩
          case measure => simp [intOf]; omega
        · have HY : Hid (fl (10 ^ (k - F.size)) = fl (10 ^ (k + 1 - F.size))) := by
            rw [Hid]; congr 2; omega
          have hdg : decide (F.size ≤ k) = false := decide_eq_false hge
          generalize fl (10 ^ (k - F.size)) = y at *
          generalize fl (X * 10 + (c.toNat - 48)) = x2 at *
          generalize fl (c.toNat - 48) = d at *
          generalize fl (X * 10) = x1 at *
          generalize fl X = x at *
          clear hge hmul2
          go_wp2_with fail
          go_round
          case rel => exact ⟨k + 1, by go_num, by omega, by rw [HX.out], by rw [HY.out]⟩
          case measure => simp [intOf]; omega
      · obtain rfl : k = L.length := by omega
        have e5 : L.length - F.size = b.length := by have := HZ.out; have := Hz1.out; omega
        have hquo := fun W => run_float_arith (P := Tryd.prog) W .quo 28 .f64 (fl (numL L)) (fl (10 ^ b.length)) q HQ.out
        rw [e5, List.take_length]
        generalize fl (numL L) = x at *
        generalize fl (10 ^ b.length) = y at *
        clear hX hP hk15 e5 HQ
        go_wp2_with fail
        go_ret2
        exact ⟨by rw [HQ2.out]; rfl, HB4.out⟩
theorem decimal_any (S : ByteArray) (f b : List UInt8) (pt : Bool) (w : World) (hf : f.length ≤ 1000000000000000000) (hb : b.length ≤ 1000000000000000000)
    (HC : Hid (∀ W, Calls Tryd.prog 39 #[.string S, .string ⟨#[46]⟩] W fun e w' => e = .returned (.tuple #[.string ⟨f.toArray⟩, .string ⟨b.toArray⟩, .bool pt]) ∧ Below W.heap.size W w'))
    (hp : pt = false → b = []) : Calls Tryd.prog 25 #[.string S] w fun e w' => e = .returned (.tuple #[fv (decV f b pt), .bool (decOk f b pt)]) ∧ Below w.heap.size w w' := by
  unfold decV
  cases h : decOk f b pt
  · exact decimal_no S f b pt w hf hb HC h
  · exact decimal_yes S f b pt w HC hp h
end Go.Proofs.YtjanpaallealgaaDoor.flt
