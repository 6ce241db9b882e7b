/-
  Proved: oriellaw6.DiskLasts returns true for every argument: of writes behind which the power goes off just the first ones are there. Conditions: none.
-/
import Derived.Test.YtjaljnpgomfmfaaDisk2
import Derived.Maps.Own
import Derived.Maps.OwnOps
import Derived.Maps.Views
import Derived.OpenShut
namespace Go.Proofs.Ytjaljnpgomfmfaa.disk
open Go.RowKit Go.Maps
open heap
open row (byteV)
open num (Num_any)
set_option linter.unusedVariables false

/-- The block that a number leads to. -/
def atOf (z : Int) : Nat := (z % 18446744073709551616 % 20).toNat
theorem atOf_eq (z : Int) : wrap64 ((IntKind.u64.wrap z).tmod 20) = (atOf z : Int) := by
  have h : 0 ≤ z % 18446744073709551616 := by omega
  rw [IntKind.wrap_u64, Int.tmod_eq_emod_of_nonneg h]
  unfold atOf
  rw [IntWalk.wrap64_in _ (by omega)]
  omega
theorem atOf_lt (z : Int) : atOf z < 20 := by unfold atOf; omega
/-- What block b holds behind i writes, of which the first k are there. -/
def fAt (zs : List Int) (k : Nat) : Nat → Nat → UInt8
  | 0, _ => 0
  | i + 1, b => if i < k ∧ atOf (zs.getD i 0) = b then UInt8.ofNat (1 + i) else fAt zs k i b
def imgAt (zs : List Int) (k i : Nat) : List UInt8 := cat (fun b => one (fAt zs k i b)) 20
theorem imgAt_len (zs : List Int) (k i : Nat) : (imgAt zs k i).length = 5120 := cat_len _ (fun _ => one_len _) 20
theorem imgAt_put (zs : List Int) (k i : Nat) (h : i < k) : putBlock (imgAt zs k i) (atOf (zs.getD i 0)) (one (UInt8.ofNat (1 + i))) = imgAt zs k (i + 1) := by
  unfold imgAt
  rw [putBlock_cat _ (fun _ => one_len _) _ (one_len _) 20 _ (atOf_lt _)]
  apply cat_congr
  intro b hb
  show (if b = atOf (zs.getD i 0) then one (UInt8.ofNat (1 + i)) else one (fAt zs k i b)) = one (fAt zs k (i + 1) b)
  rw [fAt]
  by_cases e : atOf (zs.getD i 0) = b
  · rw [if_pos e.symm, if_pos ⟨h, e⟩]
  · rw [if_neg (fun h => e h.symm), if_neg (fun h => e h.2)]
theorem imgAt_stay (zs : List Int) (k i : Nat) (h : k ≤ i) : imgAt zs k (i + 1) = imgAt zs k i := by
  unfold imgAt
  apply cat_congr
  intro b hb
  rw [fAt, if_neg (by omega)]
theorem imgAt_block (zs : List Int) (k i b : Nat) (h : b < 20) : blockOf (imgAt zs k i) b = one (fAt zs k i b) := blockOf_cat _ (fun _ => one_len _) 20 b h

theorem keyInt : Keyed Try.prog 3 := int_keyed Try.underlying3
theorem zeroU8 (w : World) : (zeroValue 5).run Try.prog w = .ok (.int .u8 0) w := by kernel_rfl
/-- A map in block b that holds the bytes f. -/
def MapIs (w : World) (b n : Nat) (f : Nat → UInt8) : Prop :=
  ∃ D : DataW Unit, w.ownsMap Try.prog 3 (plainElem Try.prog 5) b n D ∧ ∀ j : Nat, D.atKey (.int .i64 j) (.lit (.int .u8 0)) = .lit (.int .u8 (f j).toNat)
theorem MapIs.look {w : World} {b n : Nat} {f : Nat → UInt8} (h : MapIs w b n f) (j : Nat) (hj : j < 20) :
    (Instr.lookup 57 (.map (some b)) (.int .i64 j) false).run Try.prog w = .ok (.int .u8 (f j).toNat) w := by
  obtain ⟨D, ho, hf⟩ := h
  obtain ⟨c, hrun, hat, _⟩ := ho.lookup_int keyInt Try.underlying57 Try.underlying5 (zeroU8 w) (keyOf_int_mk Try.underlying3 (a := (j : Int)) (WalkArith.wf_i64 (by omega)))
  rw [hf j] at hat
  simp at hat
  rw [hrun, hat]
theorem MapIs.put {w : World} {b n : Nat} {f : Nat → UInt8} (h : MapIs w b n f) (j : Nat) (hj : j < 20) (c : UInt8) (hn : n < maxLen) :
    ∃ w', (Instr.mapUpdate 57 (.map (some b)) (.int .i64 j) (.int .u8 c.toNat)).run Try.prog w = .ok () w' ∧ MapIs w' b (n + 1) (fun i => if j = i then c else f i) ∧ w.grownBy w' (some b) := by
  obtain ⟨D, ho, hf⟩ := h
  have hc := c.toNat_lt
  obtain ⟨w', hrun, ho', hg⟩ := ho.update keyInt Try.underlying57 hn (keyOf_int_mk Try.underlying3 (a := (j : Int)) (WalkArith.wf_i64 (by omega)))
    (plainElem_int (q := .u8) Try.underlying5 (a := (c.toNat : Int)) (by simp [Lit.wf, IntKind.min, IntKind.max, IntKind.signed, IntKind.bits]; omega))
  refine ⟨w', hrun, ⟨_, ho', fun i => ?_⟩, hg⟩
  by_cases e : j = i
  · subst e
    have hm : IsMap D := by obtain ⟨es, cl, _, _, _, hD⟩ := ho; exact ⟨_, hD⟩
    rw [atKey_put_same hm (by trivial)]
    simp
  · rw [atKey_put_other (by intro h; simp at h; omega), hf i]
    simp [e]

theorem MapIs.kept {w w' : World} {b n : Nat} {f : Nat → UInt8} (h : MapIs w b n f) {S : List Nat} (ht : Turned S w w') (hb : b ∉ S) : MapIs w' b n f := by
  obtain ⟨D, ⟨es, cl, h1, h2⟩, hf⟩ := h
  exact ⟨D, ⟨es, cl, ht.kept h1 hb, h2⟩, hf⟩
theorem MapIs.congr {w : World} {b n : Nat} {f g : Nat → UInt8} (h : MapIs w b n f) (hg : ∀ j, f j = g j) : MapIs w b n g := by
  obtain ⟨D, ho, hf⟩ := h
  exact ⟨D, ho, fun j => by rw [hf j, hg j]⟩
theorem MapIs.lt {w : World} {b n : Nat} {f : Nat → UInt8} (h : MapIs w b n f) : b < w.heap.size := by
  obtain ⟨D, ⟨es, cl, h1, _⟩, _⟩ := h
  exact blk_lt h1
theorem MapIs.made (w : World) : MapIs (w.alloc (.map #[] 0)) w.heap.size 0 (fun _ => 0) :=
  ⟨.map [], World.ownsMap_made _ _ _ _, fun _ => rfl⟩
theorem turned_grown {w w' : World} {b : Nat} (h : w.grownBy w' (some b)) : Turned [b] w w' :=
  ⟨h.os, h.tape, h.output, h.size, fun k hk hn => h.block k hk (by intro e; apply hn; simp at e; simp [e])⟩
theorem offBy_step (k i : Nat) (h : i < k) : offBy true ((k : Int) - i) = decide (k ≤ i + 1) := by
  unfold offBy
  rw [Bool.eq_iff_iff]
  simp
  omega

theorem and15 (c : Int) : ∃ k : Nat, k < 16 ∧ Go.bits BinOp.and IntKind.i64 c 15 = (k : Int) := by
  refine ⟨(BitVec.ofInt 64 c &&& BitVec.ofInt 64 15).toNat, ?_, ?_⟩
  · rw [BitVec.toNat_and]
    exact Nat.lt_of_le_of_lt Nat.and_le_right (by decide)
  · have h : (BitVec.ofInt 64 c &&& BitVec.ofInt 64 15).toNat < 16 := by
      rw [BitVec.toNat_and]
      exact Nat.lt_of_le_of_lt Nat.and_le_right (by decide)
    show IntKind.i64.wrap ((BitVec.ofInt 64 c &&& BitVec.ofInt 64 15).toNat : Int) = _
    generalize (BitVec.ofInt 64 c &&& BitVec.ofInt 64 15).toNat = q at *
    rw [IntKind.wrap_i64]
    omega
theorem ret_true {a : Bool} (h : a = true) : Ending.returned (.bool a) = .returned (.bool true) := by rw [h]
/-- What the statement's first loop keeps. -/
def Lasts (w : World) (zs : List Int) (k p d mb i : Nat) (wr : World) : Prop :=
  DiskAt wr p d (imgAt zs k i) (decide (k ≤ i)) true ((k : Int) - (min i k : Nat)) (min i k : Nat) ∧ MapIs wr mb i (fAt zs k i) ∧ Below w.heap.size w wr ∧ w.heap.size ≤ p ∧ w.heap.size ≤ d ∧ w.heap.size ≤ mb ∧ mb ≠ p ∧ mb ≠ d

set_option maxRecDepth 100000 in
set_option maxHeartbeats 1600000 in
theorem lasts (a : Option Addr) (len cap : Nat) (zs : List Int) (c : Int) (w : World) (hz : len ≤ zs.length) (hlc : len ≤ cap) (hcap : cap ≤ 9223372036854775807)
    (ha : 0 < len → ∃ b off, a = some ⟨b, off, none⟩ ∧ b < w.heap.size ∧ ∀ i, i < zs.length → w.cell? ⟨b, off + i, none⟩ = some (.int .i64 (zs.getD i 0)))
    (hc : -9223372036854775808 ≤ c ∧ c ≤ 9223372036854775807) :
    Calls Try.prog 9 #[.slice a len cap, .int .i64 c] w fun e w' => e = .returned (.bool true) ∧ Below w.heap.size w w' := by
  have hmm := @run_makeMap Try.prog
  obtain ⟨k, hk, hand⟩ := and15 c
  have HNEW : Hid (∀ x : World, Calls Try.prog 51 #[.int .i64 20] x (NewPost 20 x)) := fun x => New_int 20 x (by omega) (by omega)
  have HA := Lib.hid ha; clear ha
  go_enter Try.func9, Try.ntmps9
  go_wp2_with fail
  (with_reducible refine (awake _).mono ?_); rintro e w1 ⟨rfl, hb1⟩
  go_wp2_with fail
  (with_reducible refine (HNEW.out _).mono ?_); rintro e w2 ⟨rfl, hd2, hb2⟩
  go_wp2_with fail
  (with_reducible refine (Cut_ok hd2 k (by omega)).mono ?_); rintro e w3 ⟨rfl, hd3, ht3⟩
  have hz3 : w1.heap.size + 1 < w3.heap.size := blk_lt hd3.1
  have HS : Hid (Lasts w zs k (w1.heap.size + 1) w1.heap.size w3.heap.size 0 (w3.alloc (.map #[] 0))) := by
    have hb3 := (hb1.trans (hb2.mono hb1.size)).trans (ht3.below (B := w.heap.size) (by have := hb1.size; have := hb2.size; omega) (by intro j hj; simp at hj; have := hb1.size; omega))
    have h1 := hb1.size
    have hz := zeros_cat 20
    refine ⟨?_, ?_, hb3.alloc hb3.size _, by omega, by omega, hb3.size, by omega, by omega⟩
    · have e : imgAt zs k 0 = zeros (256 * 20) := hz.symm
      have e2 : ((k : Int) == 0) = decide (k ≤ 0) := by rw [Bool.eq_iff_iff]; simp
      rw [e, show min 0 k = 0 from by omega]
      rw [e2] at hd3
      have := hd3.below ((Below.refl w3.heap.size w3).alloc (Nat.le_refl _) (.map #[] 0))
      simpa using this
    · exact MapIs.made w3
  clear hd2 hd3 ht3 hb1 hb2
  go_wp2_with fail
  generalize hp : w1.heap.size + 1 = p at *
  generalize w1.heap.size = d at *
  have HP := Lib.hid hp; clear hp
  generalize hmb : w3.heap.size = mb at *
  have HMB := Lib.hid hmb; clear hmb
  go_loopw [10, 11, 12] (fun i _ _ wr => ∃ n : Nat, n ≤ len ∧ n ≤ 30 ∧ i = .int .i64 n ∧ Lasts w zs k p d mb n wr) (fun i _ _ _ => 30 - (intOf i).toNat)
  case atStart => exact ⟨0, Nat.zero_le _, by omega, rfl, HS.out⟩
  case round =>
    obtain ⟨n, hn1, hn2, rfl, hL⟩ := hrel
    obtain ⟨hd, hmap, hbel, hp1, hp2, hp3, hp4, hp5⟩ := hL
    by_cases hlt : n < len ∧ n < 30
    · obtain ⟨hl1, hl2⟩ := hlt
      obtain ⟨b, off, rfl, hbw, hcell⟩ := HA.out (by omega)
      have hcr : wr.cell? ⟨b, off + n, none⟩ = some (.int .i64 (zs.getD n 0)) := by rw [hbel.cell (p := ⟨b, off + n, none⟩) hbw, hcell n (by omega)]
      obtain ⟨z, HZ⟩ : ∃ z, Hid (zs.getD n 0 = z) := ⟨_, Lib.hid rfl⟩
      rw [HZ.out] at hcr
      have HCELL := Lib.hid hcell; have HMAP := Lib.hid hmap; have HD := Lib.hid hd
      clear hcell hmap hd
      have HAT := Lib.hid (atOf_eq z)
      have hq := atOf_lt z
      obtain ⟨cb, HCB⟩ : ∃ cb, Hid (UInt8.ofNat (1 + n) = cb) := ⟨_, Lib.hid rfl⟩
      have HCN : Hid ((1 + (n : Int)) = (cb.toNat : Int)) := by
        rw [Hid, ← HCB.out, UInt8.toNat_ofNat_of_lt' (show 1 + n < 256 by omega)]; omega
      have HBL : Hid (∀ x : World, Calls Try.prog 54 #[.int .u8 (1 + (n : Int))] x fun e w' => e = .returned (.string ⟨(one cb).toArray⟩) ∧ Below x.heap.size x w') := fun x => by
        have := block_int (1 + n) x (by omega) (by omega)
        rw [show (1 + (n : Int)).toNat = 1 + n from by omega, HCB.out] at this
        exact this
      have HONE := Lib.hid (one_size cb)
      by_cases hik : n < k
      · have hdk : decide ((n : Int) < k) = true := by simp; omega
        have hdk2 : decide (n < k) = true := by simp; omega
        have HD2 : Hid (DiskAt wr p d (imgAt zs k n) false true ((k : Int) - n) n) := by
          have h := HD.out
          rw [show decide (k ≤ n) = false from by simp; omega, show min n k = n from by omega] at h
          exact h
        have HIP := Lib.hid (imgAt_put zs k n hik)
        rw [HZ.out, HCB.out] at HIP
        have HOFF := Lib.hid (offBy_step k n hik)
        have HFA : Hid (∀ j, (if atOf z = j then cb else fAt zs k n j) = fAt zs k (n + 1) j) := fun j => by
          rw [fAt, HZ.out, HCB.out]; simp [hik]
        generalize atOf z = q at *
        go_wp2_with fail
        (with_reducible refine (HBL.out _).mono ?_); rintro e w4 ⟨rfl, hb4⟩
        have HD4 := Lib.hid (HD2.out.below hb4)
        have HM4 := Lib.hid (HMAP.out.kept (S := []) (Turned.of_below hb4) (by simp))
        go_wp2_with fail
        rw [HAT.out]
        (with_reducible refine (Write_int HD4.out _ _ (by rw [imgAt_len]; omega) (by omega) (by rw [imgAt_len]; omega) HONE.out (by omega) (by omega) (by omega) (by omega)).mono ?_); rintro e w5 ⟨rfl, hd5, ht5⟩
        have HM5 := Lib.hid (HM4.out.kept ht5 (by simp; omega))
        rw [Int.toNat_natCast, HOFF.out] at hd5
        have HD5 : Hid (DiskAt w5 p d (imgAt zs k (n + 1)) (decide (k ≤ n + 1)) true ((k : Int) - (min (n + 1) k : Nat)) (min (n + 1) k : Nat)) := by
          rw [Hid, ← HIP.out, show min (n + 1) k = n + 1 from by omega]
          have h : DiskAt w5 p d (putBlock (imgAt zs k n) q (one cb)) (decide (k ≤ n + 1)) true ((k : Int) - n - 1) ((n : Int) + 1) := hd5
          rw [show ((k : Int) - ((n + 1 : Nat) : Int)) = (k : Int) - n - 1 from by omega, show (((n + 1 : Nat)) : Int) = (n : Int) + 1 from by omega]
          exact h
        have HB5 := Lib.hid ((hbel.trans (hb4.mono hbel.size)).trans (ht5.below (B := w.heap.size) (by have := hbel.size; have := hb4.size; omega) (by intro j hj; simp at hj; omega)))
        clear hd5 ht5 hb4
        obtain ⟨w6, hup, hm6, hg6⟩ := HM5.out.put q (by omega) cb (by unfold maxLen; omega)
        rw [← HCN.out] at hup
        have HM6 := Lib.hid hm6; have HG6 := Lib.hid hg6; clear hm6 hg6
        go_wp2_with (first | (go_at_call 39; refine (Num_any _ _).mono ?_; rintro e w' ⟨rfl, rfl⟩))
        go_roundw
        case rel =>
          have ht6 := turned_grown HG6.out
          refine ⟨n + 1, by omega, by omega, by go_num, HD5.out.turned ht6 (by simp; omega) (by simp; omega), (HM6.out.congr HFA.out), HB5.out.trans (ht6.below HB5.out.size (by intro j hj; simp at hj; omega)), hp1, hp2, hp3, hp4, hp5⟩
        case measure => simp [intOf]; omega
      · have hdk : decide ((n : Int) < k) = false := by simp; omega
        have hdk2 : decide (n < k) = false := by simp; omega
        have HD2 : Hid (DiskAt wr p d (imgAt zs k n) true true ((k : Int) - (min n k : Nat)) (min n k : Nat)) := by
          have h := HD.out
          rw [show decide (k ≤ n) = true from by simp; omega] at h
          exact h
        have HFA : Hid (∀ j, fAt zs k n j = fAt zs k (n + 1) j) := fun j => by
          rw [fAt]; simp [hik]
        generalize atOf z = q at *
        go_wp2_with fail
        (with_reducible refine (HBL.out _).mono ?_); rintro e w4 ⟨rfl, hb4⟩
        have HD4 := Lib.hid (HD2.out.below hb4)
        have HM4 := Lib.hid (HMAP.out.kept (S := []) (Turned.of_below hb4) (by simp))
        go_wp2_with fail
        rw [HAT.out]
        (with_reducible refine (Write_off HD4.out _ _).mono ?_); rintro e w5 ⟨rfl, rfl⟩
        have HB5 := Lib.hid (hbel.trans (hb4.mono hbel.size))
        go_wp2_with (first | (go_at_call 39; refine (Num_any _ _).mono ?_; rintro e w' ⟨rfl, rfl⟩))
        go_roundw
        case rel =>
          refine ⟨n + 1, by omega, by omega, by go_num, ?_, (((let ⟨D, h1, h2⟩ := HM4.out; ⟨D, h1.mono (by omega), h2⟩ : MapIs w4 mb (n + 1) (fAt zs k n))).congr HFA.out), HB5.out, hp1, hp2, hp3, hp4, hp5⟩
          rw [imgAt_stay zs k n (by omega), show decide (k ≤ n + 1) = true from by simp; omega, show min (n + 1) k = min n k from by omega]
          exact HD4.out
        case measure => simp [intOf]; omega
    · have hd1 : ¬ ((n : Int) < len ∧ (n : Int) < 30) := by omega
      have HML := Lib.hid hmap; have HD := Lib.hid hd
      clear hmap hd HA HS
      have hmin : min k (min len 30) = min n k := by omega
      have HMIN := Lib.hid hmin; clear hmin
      go_wp2_with fail
      all_goals
        (with_reducible refine (On_any HD.out).mono ?_); rintro e w6 ⟨rfl, hd6, ht6⟩
        have HD6 := Lib.hid hd6
        have HM6 := Lib.hid (HML.out.kept ht6 (by simp; omega))
        have HB6 := Lib.hid (hbel.trans (ht6.below (B := w.heap.size) hbel.size (by intro j hj; simp at hj; omega)))
        clear hd6 ht6
        go_wp2_with fail
        go_loopw [13, 14, 15] (fun i _ _ wr => ∃ b : Nat, b ≤ 20 ∧ i = .int .i64 b ∧ DiskAt wr p d (imgAt zs k n) false false ((k : Int) - (min n k : Nat)) (min n k : Nat) ∧ MapIs wr mb n (fAt zs k n) ∧ Below w.heap.size w wr) (fun i _ _ _ => 20 - (intOf i).toNat)
        case atStart => exact ⟨0, Nat.zero_le _, rfl, HD6.out, HM6.out, HB6.out⟩
        case round =>
          obtain ⟨b, hb20, rfl, hd7, hm7, hb7⟩ := hrel
          have HD7 := Lib.hid hd7; have HM7 := Lib.hid hm7; have HB7 := Lib.hid hb7
          by_cases hblt : b < 20
          · have hlk := hm7.look b hblt
            clear hd7 hm7 hb7
            obtain ⟨cb, HCB⟩ : ∃ cb, Hid (fAt zs k n b = cb) := ⟨_, Lib.hid rfl⟩
            rw [HCB.out] at hlk
            have hcbn := cb.toNat_lt
            have HBL : Hid (∀ x : World, Calls Try.prog 54 #[.int .u8 (cb.toNat : Int)] x fun e w' => e = .returned (.string ⟨(one cb).toArray⟩) ∧ Below x.heap.size x w') := block_any cb
            have HRD : Hid (Calls Try.prog 56 #[P p, .int .i64 (b : Int)] wr fun e w' => e = .returned (.tuple #[.string ⟨(one cb).toArray⟩, .int .i64 0]) ∧ wr = w') := by
              have := Read_in HD7.out b (by rw [imgAt_len]; omega) (by rw [imgAt_len]; omega)
              rw [imgAt_block zs k n b hblt, HCB.out] at this
              exact this
            generalize (⟨(one cb).toArray⟩ : ByteArray) = T at *
            go_wp2_with fail
            (with_reducible refine HRD.out.mono ?_); rintro e w' ⟨rfl, rfl⟩
            go_wp2_with (first | (go_at_call 39; refine (Num_any _ _).mono ?_; rintro e w' ⟨rfl, rfl⟩))
            (with_reducible refine (HBL.out _).mono ?_); rintro e w8 ⟨rfl, hb8⟩
            go_wp2_with fail
            go_roundw
            case rel => exact ⟨b + 1, by omega, by go_num, HD7.out.below hb8, HM7.out.kept (S := []) (Turned.of_below hb8) (by simp), HB7.out.trans (hb8.mono HB7.out.size)⟩
            case measure => simp [intOf]; omega
          · clear hd7 hm7 hb7
            go_wp2_with (first | (go_at_call 39; refine (Num_any _ _).mono ?_; rintro e w' ⟨rfl, rfl⟩))
            (with_reducible refine (Writes_any HD7.out).mono ?_); rintro e w' ⟨rfl, rfl⟩
            go_wp2
            all_goals
              go_ret
              exact ⟨ret_true (beq_iff_eq.2 (by omega)), HB7.out⟩
end Go.Proofs.Ytjaljnpgomfmfaa.disk
