/-
  Proved: oriellaw6.DiskSteps returns true for every argument: blocks and the power, under any calls, against a list. Conditions: none.
-/
import Derived.Test.YtjaljnpgomfmfaaDisk2
import Derived.Deep.DeepCutAuto
import Derived.Deep.CutBlock
namespace Go.Proofs.Ytjaljnpgomfmfaa.disk
open Go.RowKit
open heap
open row (byteV)
open num (Num_any)
set_option linter.unusedVariables false

theorem infoStr : (Try.prog.info? 9).map (fun i => (i.zero, i.size, i.bytes)) = some (some (.string ⟨#[]⟩), 1, 16) := by kernel_rfl
/-- The statement's list of texts. -/
def onV (f : Nat → List UInt8) (n : Nat) : List Value := (List.range n).map fun b => .string ⟨(f b).toArray⟩
theorem onV_get (f : Nat → List UInt8) (n b : Nat) (h : b < n) : (onV f n)[b]? = some (.string ⟨(f b).toArray⟩) := by simp [onV, h]
theorem onV_set (f : Nat → List UInt8) (n b : Nat) (s : List UInt8) (h : b < n) : (onV f n).set b (.string ⟨s.toArray⟩) = onV (upd f b s) n := by
  apply List.ext_getElem?; intro j
  rw [List.getElem?_set]
  by_cases hj : j < n
  · rw [onV_get _ _ _ hj, onV_get _ _ _ hj]
    by_cases e : b = j
    · subst e; simp [onV, h, upd]
    · have : ¬ j = b := fun h => e h.symm
      simp [e, upd, this]
  · have : ¬ b = j := by omega
    simp [onV, hj, this]
theorem onV_congr {f g : Nat → List UInt8} {n : Nat} (h : ∀ b, b < n → f b = g b) : onV f n = onV g n := by
  apply List.ext_getElem?; intro j
  by_cases hj : j < n
  · rw [onV_get _ _ _ hj, onV_get _ _ _ hj, h j hj]
  · simp [onV, hj]
theorem onV_start (n : Nat) : List.replicate n (Value.string ⟨#[]⟩) = onV (fun b => if b < 0 then one 0 else []) n := by
  apply List.ext_getElem?; intro j
  by_cases hj : j < n
  · rw [onV_get _ _ _ hj]; simp [hj]
  · simp [onV, hj]
structure Step where
  kind : Int
  at_ : Int
  byte : UInt8
  less : Int
def StepsIn (w : World) (a : Option Addr) (len : Nat) (st : Nat → Step) : Prop :=
  0 < len → ∃ b off, a = some ⟨b, off, none⟩ ∧ b < w.heap.size ∧ ∀ i, i < len →
    w.cell? ⟨b, off + i * 4, none⟩ = some (.int .i64 (st i).kind) ∧ w.cell? ⟨b, off + i * 4 + 1, none⟩ = some (.int .i64 (st i).at_) ∧
    w.cell? ⟨b, off + i * 4 + 2, none⟩ = some (.int .u8 (st i).byte.toNat) ∧ w.cell? ⟨b, off + i * 4 + 3, none⟩ = some (.int .i64 (st i).less) ∧
    (-9223372036854775808 ≤ (st i).at_ ∧ (st i).at_ ≤ 9223372036854775807)

/-- What the statement and the device hold at one time. -/
def Same (n : Nat) (p d g : Nat) (f : Nat → List UInt8) (alive : Bool) (cutv : Int) (writes : Nat) (wr : World) : Prop :=
  ∃ (cutB : Bool) (left : Int), DiskAt wr p d (cat f n) (!alive) cutB left writes ∧ (∀ b, (f b).length = 256) ∧ -(writes : Int) ≤ left ∧ left ≤ 9223372036854775807 ∧
    ((cutB = false ∧ cutv = -1 ∧ alive = true) ∨ (cutB = true ∧ cutv = left ∧ 0 ≤ left ∧ alive = decide (left ≠ 0))) ∧
    wr.ownsRow (p + 1) 9 1 (.slice (some ⟨g, 0, none⟩) n n) n (onV f n) ∧ g ≠ p ∧ g ≠ d

theorem carry {W w' : World} (hb : Below W.heap.size W w') {b o : Nat} {v : Value} (h : W.cell? ⟨b, o, none⟩ = some v) : w'.cell? ⟨b, o, none⟩ = some v := by
  rw [hb.cell (World.block_lt_of_cell? W _ h), h]
theorem own_below {w w' : World} {base n : Nat} {t : TypeId} {v : Value} {xs : List Value} (h : w.ownsRow base t 1 v n xs) (hb : Below w.heap.size w w') : w'.ownsRow base t 1 v n xs := by
  refine ⟨h.1, ?_⟩
  rcases h.2 with h | ⟨g, cap, cur, hv, h1, h2, r⟩
  · exact .inl h
  · exact .inr ⟨g, cap, cur, hv, h1, blk_below h2 hb, r⟩
theorem own_turned {w w' : World} {base n cap g : Nat} {t : TypeId} {xs : List Value} (h : w.ownsRow base t 1 (.slice (some ⟨g, 0, none⟩) n cap) n xs) {S : List Nat} (ht : Turned S w w') (hn : g ∉ S) : w'.ownsRow base t 1 (.slice (some ⟨g, 0, none⟩) n cap) n xs := by
  refine ⟨h.1, ?_⟩
  rcases h.2 with h | ⟨g', cap', cur, hv, h1, h2, r⟩
  · exact .inl h
  · simp at hv
    obtain ⟨rfl, rfl⟩ := hv
    exact .inr ⟨g, cap, cur, rfl, h1, ht.kept h2 hn, r⟩
theorem Same.below {n p d g : Nat} {f : Nat → List UInt8} {alive : Bool} {cutv : Int} {writes : Nat} {w w' : World} (h : Same n p d g f alive cutv writes w) (hb : Below w.heap.size w w') : Same n p d g f alive cutv writes w' := by
  obtain ⟨cutB, left, h1, h2, h3, h4, h5, h6, h7⟩ := h
  exact ⟨cutB, left, h1.below hb, h2, h3, h4, h5, own_below h6 hb, h7⟩

set_option maxRecDepth 100000 in
set_option maxHeartbeats 8000000 in
theorem steps_mid (n : Nat) (a : Option Addr) (len cap : Nat) (st : Nat → Step) (w : World) (h1 : 1 ≤ n) (h2 : n ≤ 300) (hlc : len ≤ cap) (hcap : cap ≤ 9223372036854775807) (hst : StepsIn w a len st) :
    Calls Try.prog 10 #[.int .i64 n, .slice a len cap] w fun e w' => e = .returned (.bool true) ∧ Below w.heap.size w w' := by
  obtain ⟨i0, hi, hz0, hz1, hz2⟩ := info_parts infoStr
  have HST := Lib.hid hst; clear hst
  have d1 : decide ((n : Int) < 1) = false := by simp; omega
  have d2 : decide (65536 < (n : Int)) = false := by simp; omega
  have d3 : decide (300 < (n : Int)) = false := by simp; omega
  have HB0 : Hid (∀ x : World, Calls Try.prog 54 #[.int .u8 0] x fun e w' => e = .returned (.string ⟨(one 0).toArray⟩) ∧ Below x.heap.size x w') := fun x => block_int 0 x (by omega) (by omega)
  go_enter Try.func10, Try.ntmps10
  go_wp2_with fail
  (with_reducible refine (New_ok n _ h1 (by omega)).mono ?_); rintro e w1 ⟨rfl, hd1, hb1⟩
  have HD1 := Lib.hid hd1; clear hd1
  go_wp2_with (at_make; refine wpList_make_full _ rfl _ _ 66 rfl w1.heap.size 9 i0 (.string ⟨#[]⟩) 1 Try.underlying66 hi hz0 hz1 .i64 .i64 n n n rfl rfl rfl rfl (by rw [hz2]; omega) (by unfold maxLen; omega) (Nat.le_refl _) ?_; intro w2 hown2 hgrow2)
  have hb2 : Below w1.heap.size w1 w2 := (Below.refl _ _).grown hgrow2 (Nat.le_refl _) (by simp)
  have HD2 := Lib.hid (HD1.out.below hb2)
  have HO2 : Hid (w2.ownsRow w1.heap.size 9 1 (.slice (some ⟨w1.heap.size, 0, none⟩) n n) n (onV (fun b => if b < 0 then one 0 else []) n)) := by
    rw [Hid, ← onV_start]; simpa [toList_madeCells_one, Value.cells] using hown2
  have hp1 : w.heap.size + 1 < w1.heap.size := blk_lt HD1.out.1
  have HB2 := Lib.hid (hb1.trans (hb2.mono hb1.size))
  clear hown2 hgrow2 hb1 hb2
  generalize hG : w1.heap.size = G at *
  have HG := Lib.hid hG; clear hG
  go_loopw [8] (fun i wr => ∃ k : Nat, k ≤ n ∧ i = .int .i64 k ∧ wr.ownsRow G 9 1 (.slice (some ⟨G, 0, none⟩) n n) n (onV (fun b => if b < k then one 0 else []) n) ∧ DiskAt wr (w.heap.size + 1) w.heap.size (zeros (256 * n)) false false 0 0 ∧ Below w.heap.size w wr ∧ G < wr.heap.size) (fun i _ => n - (intOf i).toNat)
  case atStart => exact ⟨0, Nat.zero_le _, rfl, HO2.out, HD2.out, HB2.out, (HO2.out.lt G rfl).2⟩
  case round =>
    obtain ⟨k, hk, rfl, hown, hd, hbel, hGl⟩ := hrel
    by_cases hlt : k < n
    · have HO := Lib.hid hown; have HD := Lib.hid hd; have HB := Lib.hid hbel
      clear hown hd hbel
      go_wp2_with fail
      (with_reducible refine (HB0.out _).mono ?_); rintro e w3 ⟨rfl, hb3⟩
      have hown3 := HO.out.kept (row := none) ⟨hb3.os, hb3.tape, hb3.output, hb3.size, fun k hk _ => hb3.block k hk⟩ (.inr (by simp [Value.ownBlock]))
      have hc : w3.cell? ⟨G, k, none⟩ = some (.string ⟨#[]⟩) := by rw [hown3.cellAt k (by omega), onV_get _ _ _ hlt]; simp
      have hf : w3.frozen? ⟨G, k, none⟩ = false := hown3.frozenAt k
      have R := hown3.stored k (.string ⟨(one 0).toArray⟩)
      rw [onV_set _ _ _ _ hlt, onV_congr (g := fun b => if b < k + 1 then one 0 else []) (fun b hb => by
        unfold upd
        by_cases e : b = k
        · subst e; simp
        · have : b < k + 1 ↔ b < k := by omega
          simp [e, this])] at R
      have HR := Lib.hid R.1
      have ht : Turned [G] w3 (w3.setCell ⟨G, k, none⟩ (.string ⟨(one 0).toArray⟩)) := (Turned.refl _ _).setCell (by simp) _
      have HT := Lib.hid ht
      have HB3 := Lib.hid hb3
      clear R hown3 ht
      go_wp2_with fail
      go_roundw
      case rel => exact ⟨k + 1, by omega, by go_num, HR.out, (HD.out.below HB3.out).turned HT.out (by simp; omega) (by simp; omega), (HB.out.trans (HB3.out.mono HB.out.size)).trans (HT.out.below (Nat.le_trans HB.out.size HB3.out.size) (by intro j hj; simp at hj; omega)), by have := HB3.out.size; have := HT.out.size; omega⟩
      case measure => simp [intOf]; omega
    · obtain rfl : k = n := by omega
      have HS : Hid (Same k (w.heap.size + 1) w.heap.size G (fun _ => one 0) true (-1) 0 wr) := by
        refine ⟨false, 0, ?_, fun _ => one_len 0, by simp, by omega, .inl ⟨rfl, rfl, rfl⟩, ?_, by omega, by omega⟩
        · rw [← zeros_cat]; exact hd
        · rw [onV_congr (g := fun b => if b < k then one 0 else []) (fun b hb => by simp [hb])]
          refine ⟨hown.1, ?_⟩
          rcases hown.2 with h | ⟨g', cap', cur, h, hb, r⟩
          · exact .inl h
          · refine .inr ⟨g', cap', cur, h, ?_, r⟩
            simp at h
            omega
      have HB := Lib.hid hbel
      clear hown hd hbel
      go_wp2_with fail
      generalize hP : w.heap.size + 1 = p at *
      have hwp : w.heap.size < p := by omega
      have HP := Lib.hid hP; clear hP
      go_loopw [9, 10, 11, 12] (fun s9 s10 s11 s12 wr => ∃ (i : Nat) (alive : Bool) (cutv : Int) (writes : Nat) (f : Nat → List UInt8), i ≤ len ∧ i ≤ 200 ∧ writes ≤ i ∧ s12 = .int .i64 i ∧ s9 = .bool alive ∧ s10 = .int .i64 cutv ∧ s11 = .int .i64 writes ∧ Same k p w.heap.size G f alive cutv writes wr ∧ Below w.heap.size w wr) (fun _ _ _ i _ => 200 - (intOf i).toNat)
      case atStart => exact ⟨0, true, -1, 0, fun _ => one 0, Nat.zero_le _, by omega, Nat.le_refl _, rfl, rfl, rfl, rfl, HS.out, HB.out⟩
      case round =>
        obtain ⟨i, alive, cutv, writes, f, hi1, hi2, hwi, rfl, rfl, rfl, rfl, hS, hB⟩ := hrel
        have HSM := Lib.hid hS; have HBB := Lib.hid hB
        by_cases hlt : i < len ∧ i < 200
        · obtain ⟨hl1, hl2⟩ := hlt
          obtain ⟨b, off, rfl, hbw, hcells⟩ := HST.out (by omega)
          obtain ⟨c0, c1, c2, c3, hat⟩ := hcells i hl1
          rw [← hB.cell (p := ⟨b, off + i * 4, none⟩) hbw] at c0
          rw [← hB.cell (p := ⟨b, off + i * 4 + 1, none⟩) hbw] at c1
          rw [← hB.cell (p := ⟨b, off + i * 4 + 2, none⟩) hbw] at c2
          rw [← hB.cell (p := ⟨b, off + i * 4 + 3, none⟩) hbw] at c3
          have HCS := Lib.hid hcells
          clear hcells hS hB
          generalize (st i).kind = kd at *
          generalize (st i).at_ = at_ at *
          generalize (st i).byte = by_ at *
          generalize (st i).less = less at *
          go_upto_block 4 with (fail)
          obtain ⟨cutB, left, hdk, hfl, hl1, hl2, hcut, hown, hgp, hgd⟩ := HSM.out
          have hgl := (hown.lt G rfl).2
          have hpw : p < wr.heap.size := blk_lt hdk.1
          have hdw : w.heap.size < wr.heap.size := blk_lt hdk.2.1
          have HOWN := Lib.hid hown; have HCUT := Lib.hid hcut; have HFL := Lib.hid hfl
          have ba : Below wr.heap.size wr (wr.alloc (.cells #[.int .i64 kd, .int .i64 at_, .int .u8 by_.toNat, .int .i64 less] 68)) := (Below.refl _ _).alloc (Nat.le_refl _) _
          have HD0 := Lib.hid (hdk.below ba)
          have HSB := Lib.hid (HSM.out.below ba)
          have HB0 := Lib.hid (HBB.out.trans (ba.mono HBB.out.size))
          have q0 : (wr.alloc (.cells #[.int .i64 kd, .int .i64 at_, .int .u8 by_.toNat, .int .i64 less] 68)).cell? ⟨wr.heap.size, 0, none⟩ = some (.int .i64 kd) := by simp
          have q1 : (wr.alloc (.cells #[.int .i64 kd, .int .i64 at_, .int .u8 by_.toNat, .int .i64 less] 68)).cell? ⟨wr.heap.size, 1, none⟩ = some (.int .i64 at_) := by simp
          have q2 : (wr.alloc (.cells #[.int .i64 kd, .int .i64 at_, .int .u8 by_.toNat, .int .i64 less] 68)).cell? ⟨wr.heap.size, 2, none⟩ = some (.int .u8 by_.toNat) := by simp
          have q3 : (wr.alloc (.cells #[.int .i64 kd, .int .i64 at_, .int .u8 by_.toNat, .int .i64 less] 68)).cell? ⟨wr.heap.size, 3, none⟩ = some (.int .i64 less) := by simp
          have hlen : (cat f k).length = 256 * k := cat_len f hfl k
          have HLEN := Lib.hid hlen
          have HBL := Lib.hid (block_any by_)
          have HT1 : Hid ((⟨(one by_).toArray⟩ : ByteArray).data.toList = one by_) := rfl
          have HT2 := Lib.hid (one_size by_)
          have HO1 := Lib.hid (one_len by_)
          have HBA0 := Lib.hid ba
          clear hown hcut hfl hdk hlen ba
          generalize hW0 : wr.alloc (.cells #[.int .i64 kd, .int .i64 at_, .int .u8 by_.toNat, .int .i64 less] 68) = W0 at *
          clear hW0
          go_cut [9, 10, 11] (fun s9 s10 s11 wx => ∃ (alive' : Bool) (cutv' : Int) (writes' : Nat) (f' : Nat → List UInt8), writes' ≤ i + 1 ∧ s9 = .bool alive' ∧ s10 = .int .i64 cutv' ∧ s11 = .int .i64 writes' ∧ Same k p w.heap.size G f' alive' cutv' writes' wx ∧ Below w.heap.size w wx)
          case first =>
            have HBA : Hid (Below wr.heap.size wr W0) := HBA0.out
            by_cases k2 : kd = 2
            · subst k2
              cases alive with
              | false =>
                as_aux_lemma =>
                  go_wp2_with fail
                  (with_reducible refine (Read_off HD0.out _).mono ?_); rintro e w' ⟨rfl, rfl⟩
                  go_wp2_with (first | (go_at_call 39; refine (Num_any _ _).mono ?_; rintro e w' ⟨rfl, rfl⟩))
                  go_meet
                  exact ⟨_, cutv, writes, f, by omega, rfl, rfl, rfl, HSB.out, HB0.out⟩
              | true =>
                by_cases hr : at_ < 0 ∨ (k : Int) ≤ at_
                · have HRO := Lib.hid (Read_out HD0.out at_ (by rw [HLEN.out]; omega) (by rw [HLEN.out]; omega))
                  rcases Int.lt_or_le at_ 0 with h0 | h0
                  · have e1 : decide (at_ < 0) = true := by simpa using h0
                    as_aux_lemma =>
                      go_wp2_with fail
                      (with_reducible refine (HRO.out).mono ?_); rintro e w' ⟨rfl, rfl⟩
                      go_wp2_with (first | (go_at_call 39; refine (Num_any _ _).mono ?_; rintro e w' ⟨rfl, rfl⟩))
                      go_meet
                      exact ⟨_, cutv, writes, f, by omega, rfl, rfl, rfl, HSB.out, HB0.out⟩
                  · have e1 : decide (at_ < 0) = false := by simp; omega
                    have e2 : decide ((k : Int) ≤ at_) = true := by simp; omega
                    clear hr
                    as_aux_lemma =>
                      go_wp2_with fail
                      (with_reducible refine (HRO.out).mono ?_); rintro e w' ⟨rfl, rfl⟩
                      go_wp2_with (first | (go_at_call 39; refine (Num_any _ _).mono ?_; rintro e w' ⟨rfl, rfl⟩))
                      go_meet
                      exact ⟨_, cutv, writes, f, by omega, rfl, rfl, rfl, HSB.out, HB0.out⟩
                · have e1 : decide (at_ < 0) = false := by simp; omega
                  have e2 : decide ((k : Int) ≤ at_) = false := by simp; omega
                  obtain ⟨m, rfl⟩ := Int.eq_ofNat_of_zero_le (show 0 ≤ at_ by omega)
                  have hcm : W0.cell? ⟨G, m, none⟩ = some (.string ⟨(f m).toArray⟩) := by rw [(own_below HOWN.out HBA.out).cellAt m (by omega), onV_get _ _ _ (by omega)]
                  have HRD : Hid (Calls Try.prog 56 #[P p, .int .i64 (m : Int)] W0 fun e w' => e = .returned (.tuple #[.string ⟨(f m).toArray⟩, .int .i64 0]) ∧ W0 = w') := by
                    have := Read_in HD0.out m (by rw [HLEN.out]; omega) (by rw [HLEN.out]; omega)
                    rw [blockOf_cat f HFL.out k m (by omega)] at this
                    exact this
                  generalize (⟨(f m).toArray⟩ : ByteArray) = T at *
                  as_aux_lemma =>
                    go_wp2_with fail
                    (with_reducible refine (HRD.out).mono ?_); rintro e w' ⟨rfl, rfl⟩
                    go_wp2_with (first | (go_at_call 39; refine (Num_any _ _).mono ?_; rintro e w' ⟨rfl, rfl⟩))
                    go_meet
                    exact ⟨_, cutv, writes, f, by omega, rfl, rfl, rfl, HSB.out, HB0.out⟩
            by_cases k3 : kd = 3
            · subst k3
              cases alive with
              | false =>
                as_aux_lemma =>
                  go_wp2_with fail
                  (with_reducible refine (Cut_off HD0.out _).mono ?_); rintro e w' ⟨rfl, rfl⟩
                  go_wp2_with (first | (go_at_call 39; refine (Num_any _ _).mono ?_; rintro e w' ⟨rfl, rfl⟩))
                  go_meet
                  exact ⟨_, cutv, writes, f, by omega, rfl, rfl, rfl, HSB.out, HB0.out⟩
              | true =>
                rcases Int.lt_or_le at_ 0 with h0 | h0
                · have e1 : decide (at_ < 0) = true := by simpa using h0
                  as_aux_lemma =>
                    go_wp2_with fail
                    (with_reducible refine (Cut_neg HD0.out _ h0).mono ?_); rintro e w' ⟨rfl, rfl⟩
                    go_wp2_with (first | (go_at_call 39; refine (Num_any _ _).mono ?_; rintro e w' ⟨rfl, rfl⟩))
                    go_meet
                    exact ⟨_, cutv, writes, f, by omega, rfl, rfl, rfl, HSB.out, HB0.out⟩
                · have e1 : decide (at_ < 0) = false := by simp; omega
                  as_aux_lemma =>
                    go_wp2_with fail
                    (with_reducible refine (Cut_ok HD0.out at_ (by omega)).mono ?_); rintro e w5 ⟨rfl, hd5, ht5⟩
                    have hs1 := ht5.cell q1 (by simp; omega)
                    have HN : Hid (Same k p w.heap.size G f (decide (at_ ≠ 0)) at_ writes w5) := by
                      refine ⟨true, at_, ?_, HFL.out, by omega, by omega, .inr ⟨rfl, rfl, by omega, rfl⟩, own_turned (own_below HOWN.out HBA.out) ht5 (by simp; omega), hgp, hgd⟩
                      have e : (at_ == 0) = !(decide (at_ ≠ 0)) := by rw [Bool.eq_iff_iff]; simp
                      rw [← e]; exact hd5
                    have HBN : Hid (Below w.heap.size w w5) := HB0.out.trans (ht5.below HB0.out.size (by intro j hj; simp at hj; omega))
                    clear hd5 ht5
                    by_cases hz : at_ = 0
                    · subst hz
                      go_wp2_with (first | (go_at_call 39; refine (Num_any _ _).mono ?_; rintro e w' ⟨rfl, rfl⟩))
                      go_meet
                      exact ⟨false, 0, writes, f, by omega, rfl, rfl, rfl, HN.out, HBN.out⟩
                    · have hzb : (at_ != 0) = true := by rw [bne_iff_ne]; exact hz
                      have e : decide (at_ ≠ 0) = true := by simpa using hz
                      rw [e] at HN
                      clear hz e
                      go_wp2_with (first | (go_at_call 39; refine (Num_any _ _).mono ?_; rintro e w' ⟨rfl, rfl⟩))
                      go_meet
                      exact ⟨true, at_, writes, f, by omega, rfl, rfl, rfl, HN.out, HBN.out⟩
            have b2 : (kd == 2) = false := beq_eq_false_iff_ne.2 k2
            have b3 : (kd == 3) = false := beq_eq_false_iff_ne.2 k3
            by_cases k01 : kd = 0 ∨ kd = 1
            · clear b2 b3 k2 k3
              have HBL2 : Hid (∀ x : World, Calls Try.prog 54 #[.int .u8 (by_.toNat : Int)] x fun e w' => e = .returned (.string ⟨(one by_).toArray⟩) ∧ Below x.heap.size x w') := HBL.out
              have HTL : Hid ((⟨(one by_).toArray⟩ : ByteArray).data.toList = one by_) := Lib.hid rfl
              generalize (⟨(one by_).toArray⟩ : ByteArray) = T at *
              have hT : T.size = 256 := HT2.out
              have hTx : (T.extract 0 255).size ≠ 256 := by rw [ByteArray.size_extract]; omega
              have HTX := Lib.hid hTx
              have hTm : (T.extract 0 255).size ≤ 9223372036854775807 := by rw [ByteArray.size_extract]; omega
              have HTM := Lib.hid hTm
              clear hTx hTm
              rcases k01 with rfl | rfl
              all_goals
                cases alive with
                | false =>
                  rcases Int.lt_or_le 0 less with hls | hls
                  · have e3 : decide (0 < less) = true := by simpa using hls
                    as_aux_lemma =>
                      go_wp2_with fail
                      (with_reducible refine (HBL2.out _).mono ?_); rintro e w4 ⟨rfl, hb4⟩
                      have s1 := carry hb4 q1; have s3 := carry hb4 q3
                      have HD4 := Lib.hid (HD0.out.below hb4)
                      have HS4 := Lib.hid (HSB.out.below hb4)
                      have HB4 := Lib.hid (HB0.out.trans (hb4.mono HB0.out.size))
                      clear hb4
                      go_wp2_with fail
                      (with_reducible refine (Write_off HD4.out _ _).mono ?_); rintro e w' ⟨rfl, rfl⟩
                      go_wp2_with (first | (go_at_call 39; refine (Num_any _ _).mono ?_; rintro e w' ⟨rfl, rfl⟩))
                      go_meet
                      exact ⟨_, cutv, writes, f, by omega, rfl, rfl, rfl, HS4.out, HB4.out⟩
                  · have e3 : decide (0 < less) = false := by simp; omega
                    as_aux_lemma =>
                      go_wp2_with fail
                      (with_reducible refine (HBL2.out _).mono ?_); rintro e w4 ⟨rfl, hb4⟩
                      have s1 := carry hb4 q1; have s3 := carry hb4 q3
                      have HD4 := Lib.hid (HD0.out.below hb4)
                      have HS4 := Lib.hid (HSB.out.below hb4)
                      have HB4 := Lib.hid (HB0.out.trans (hb4.mono HB0.out.size))
                      clear hb4
                      go_wp2_with fail
                      (with_reducible refine (Write_off HD4.out _ _).mono ?_); rintro e w' ⟨rfl, rfl⟩
                      go_wp2_with (first | (go_at_call 39; refine (Num_any _ _).mono ?_; rintro e w' ⟨rfl, rfl⟩))
                      go_meet
                      exact ⟨_, cutv, writes, f, by omega, rfl, rfl, rfl, HS4.out, HB4.out⟩
                | true =>
                  by_cases hr : at_ < 0 ∨ (k : Int) ≤ at_
                  · rcases Int.lt_or_le at_ 0 with h0 | h0
                    · have e1 : decide (at_ < 0) = true := by simpa using h0
                      rcases Int.lt_or_le 0 less with hls | hls
                      · have e3 : decide (0 < less) = true := by simpa using hls
                        as_aux_lemma =>
                          go_wp2_with fail
                          (with_reducible refine (HBL2.out _).mono ?_); rintro e w4 ⟨rfl, hb4⟩
                          have s1 := carry hb4 q1; have s3 := carry hb4 q3
                          have HD4 := Lib.hid (HD0.out.below hb4)
                          have HS4 := Lib.hid (HSB.out.below hb4)
                          have HB4 := Lib.hid (HB0.out.trans (hb4.mono HB0.out.size))
                          clear hb4
                          go_wp2_with fail
                          (with_reducible refine (Write_out HD4.out _ _ (by rw [HLEN.out]; omega) (by rw [HLEN.out]; omega)).mono ?_); rintro e w' ⟨rfl, rfl⟩
                          go_wp2_with (first | (go_at_call 39; refine (Num_any _ _).mono ?_; rintro e w' ⟨rfl, rfl⟩))
                          go_meet
                          exact ⟨_, cutv, writes, f, by omega, rfl, rfl, rfl, HS4.out, HB4.out⟩
                      · have e3 : decide (0 < less) = false := by simp; omega
                        as_aux_lemma =>
                          go_wp2_with fail
                          (with_reducible refine (HBL2.out _).mono ?_); rintro e w4 ⟨rfl, hb4⟩
                          have s1 := carry hb4 q1; have s3 := carry hb4 q3
                          have HD4 := Lib.hid (HD0.out.below hb4)
                          have HS4 := Lib.hid (HSB.out.below hb4)
                          have HB4 := Lib.hid (HB0.out.trans (hb4.mono HB0.out.size))
                          clear hb4
                          go_wp2_with fail
                          (with_reducible refine (Write_out HD4.out _ _ (by rw [HLEN.out]; omega) (by rw [HLEN.out]; omega)).mono ?_); rintro e w' ⟨rfl, rfl⟩
                          go_wp2_with (first | (go_at_call 39; refine (Num_any _ _).mono ?_; rintro e w' ⟨rfl, rfl⟩))
                          go_meet
                          exact ⟨_, cutv, writes, f, by omega, rfl, rfl, rfl, HS4.out, HB4.out⟩
                    · have e1 : decide (at_ < 0) = false := by simp; omega
                      have e2 : decide ((k : Int) ≤ at_) = true := by simp; omega
                      rcases Int.lt_or_le 0 less with hls | hls
                      · have e3 : decide (0 < less) = true := by simpa using hls
                        as_aux_lemma =>
                          go_wp2_with fail
                          (with_reducible refine (HBL2.out _).mono ?_); rintro e w4 ⟨rfl, hb4⟩
                          have s1 := carry hb4 q1; have s3 := carry hb4 q3
                          have HD4 := Lib.hid (HD0.out.below hb4)
                          have HS4 := Lib.hid (HSB.out.below hb4)
                          have HB4 := Lib.hid (HB0.out.trans (hb4.mono HB0.out.size))
                          clear hb4
                          go_wp2_with fail
                          (with_reducible refine (Write_out HD4.out _ _ (by rw [HLEN.out]; omega) (by rw [HLEN.out]; omega)).mono ?_); rintro e w' ⟨rfl, rfl⟩
                          go_wp2_with (first | (go_at_call 39; refine (Num_any _ _).mono ?_; rintro e w' ⟨rfl, rfl⟩))
                          go_meet
                          exact ⟨_, cutv, writes, f, by omega, rfl, rfl, rfl, HS4.out, HB4.out⟩
                      · have e3 : decide (0 < less) = false := by simp; omega
                        as_aux_lemma =>
                          go_wp2_with fail
                          (with_reducible refine (HBL2.out _).mono ?_); rintro e w4 ⟨rfl, hb4⟩
                          have s1 := carry hb4 q1; have s3 := carry hb4 q3
                          have HD4 := Lib.hid (HD0.out.below hb4)
                          have HS4 := Lib.hid (HSB.out.below hb4)
                          have HB4 := Lib.hid (HB0.out.trans (hb4.mono HB0.out.size))
                          clear hb4
                          go_wp2_with fail
                          (with_reducible refine (Write_out HD4.out _ _ (by rw [HLEN.out]; omega) (by rw [HLEN.out]; omega)).mono ?_); rintro e w' ⟨rfl, rfl⟩
                          go_wp2_with (first | (go_at_call 39; refine (Num_any _ _).mono ?_; rintro e w' ⟨rfl, rfl⟩))
                          go_meet
                          exact ⟨_, cutv, writes, f, by omega, rfl, rfl, rfl, HS4.out, HB4.out⟩
                  · have e1 : decide (at_ < 0) = false := by simp; omega
                    have e2 : decide ((k : Int) ≤ at_) = false := by simp; omega
                    obtain ⟨m, rfl⟩ := Int.eq_ofNat_of_zero_le (show 0 ≤ at_ by omega)
                    rcases Int.lt_or_le 0 less with hls | hls
                    · have e3 : decide (0 < less) = true := by simpa using hls
                      as_aux_lemma =>
                        go_wp2_with fail
                        (with_reducible refine (HBL2.out _).mono ?_); rintro e w4 ⟨rfl, hb4⟩
                        have s1 := carry hb4 q1; have s3 := carry hb4 q3
                        have HD4 := Lib.hid (HD0.out.below hb4)
                        have HS4 := Lib.hid (HSB.out.below hb4)
                        have HB4 := Lib.hid (HB0.out.trans (hb4.mono HB0.out.size))
                        clear hb4
                        go_wp2_with fail
                        (with_reducible refine (Write_bytes HD4.out m _ (by rw [HLEN.out]; omega) (by rw [HLEN.out]; omega) HTX.out HTM.out).mono ?_); rintro e w' ⟨rfl, rfl⟩
                        go_wp2_with (first | (go_at_call 39; refine (Num_any _ _).mono ?_; rintro e w' ⟨rfl, rfl⟩))
                        go_meet
                        exact ⟨_, cutv, writes, f, by omega, rfl, rfl, rfl, HS4.out, HB4.out⟩
                    · have e3 : decide (0 < less) = false := by simp; omega
                      have hcvb : cutv ≤ 9223372036854775807 := by rcases HCUT.out with ⟨_, h, _⟩ | ⟨_, h, _⟩ <;> omega
                      have HW5 : Hid (∀ W w5 : World, DiskAt w5 p w.heap.size (putBlock (cat f k) m T.data.toList) (offBy cutB left) cutB (left - 1) (writes + 1) → Turned [p, w.heap.size] W w5 → W.ownsRow (p + 1) 9 1 (.slice (some ⟨G, 0, none⟩) k k) k (onV f k) → Below w.heap.size w W →
                          ∃ alive', offBy cutB left = !alive' ∧ alive' = ((if 0 < cutv then cutv - 1 else cutv) != 0) ∧ Same k p w.heap.size G (upd f m T.data.toList) alive' (if 0 < cutv then cutv - 1 else cutv) (writes + 1) (w5.setCell ⟨G, m, none⟩ (.string T)) ∧ Below w.heap.size w (w5.setCell ⟨G, m, none⟩ (.string T))) := by
                        intro W w5 hd5 ht5 hoW hbW
                        rw [putBlock_cat f HFL.out _ (by rw [HTL.out]; exact one_len _) k m (by omega)] at hd5
                        have ht6 : Turned [G] w5 (w5.setCell ⟨G, m, none⟩ (.string T)) := (Turned.refl _ _).setCell (by simp) _
                        have ho5 := own_turned hoW ht5 (by simp; omega)
                        have ho6 := (ho5.stored m (.string T)).1
                        have hTT : Value.string T = .string ⟨(T.data.toList).toArray⟩ := rfl
                        rw [hTT, onV_set f k m _ (by omega), ← hTT] at ho6
                        have hd6 := hd5.turned ht6 (by simp; omega) (by simp; omega)
                        have hb6 := (hbW.trans (ht5.below hbW.size (by intro j hj; simp at hj; omega))).trans (ht6.below (by have := hbW.size; have := ht5.size; omega) (by intro j hj; simp at hj; omega))
                        have hfl6 := upd_len HFL.out m (s := T.data.toList) (by rw [HTL.out]; exact one_len _)
                        rcases HCUT.out with ⟨rfl, rfl, _⟩ | ⟨rfl, rfl, hle, hal⟩
                        · exact ⟨true, rfl, rfl, ⟨false, left - 1, hd6, hfl6, by omega, by omega, .inl ⟨rfl, rfl, rfl⟩, ho6, hgp, hgd⟩, hb6⟩
                        · have hl0 : cutv ≠ 0 := by simpa using hal.symm
                          rw [if_pos (show 0 < cutv by omega)]
                          have e : offBy true cutv = !(cutv - 1 != 0) := by unfold offBy; rw [Bool.eq_iff_iff]; simp; omega
                          refine ⟨_, e, rfl, ⟨true, cutv - 1, by rw [← e]; exact hd6, hfl6, by omega, by omega, .inr ⟨rfl, rfl, by omega, ?_⟩, ho6, hgp, hgd⟩, hb6⟩
                          rw [Bool.eq_iff_iff]; simp
                      as_aux_lemma =>
                        go_wp2_with fail
                        (with_reducible refine (HBL2.out _).mono ?_); rintro e w4 ⟨rfl, hb4⟩
                        have s1 := carry hb4 q1; have s3 := carry hb4 q3
                        have HD4 := Lib.hid (HD0.out.below hb4)
                        have HO4 := Lib.hid (own_below (own_below HOWN.out HBA.out) hb4)
                        have HB4 := Lib.hid (HB0.out.trans (hb4.mono HB0.out.size))
                        have hsz4 : wr.heap.size < w4.heap.size := World.block_lt_of_cell? w4 _ s1
                        clear hb4
                        go_wp2_with fail
                        (with_reducible refine (Write_ok HD4.out m T (by rw [HLEN.out]; omega) (by rw [HLEN.out]; omega) HT2.out (by omega) (by omega) (by omega) (by omega)).mono ?_); rintro e w5 ⟨rfl, hd5, ht5⟩
                        have s1 := ht5.cell s1 (by simp; omega); have s3 := ht5.cell s3 (by simp; omega)
                        have ho5 := own_turned HO4.out ht5 (by simp; omega)
                        have hcm : w5.cell? ⟨G, m, none⟩ = some (.string ⟨(f m).toArray⟩) := by rw [ho5.cellAt m (by omega), onV_get _ _ _ (by omega)]
                        have hfm : w5.frozen? ⟨G, m, none⟩ = false := ho5.frozenAt m
                        obtain ⟨alive', _, hav, hS6, hB6⟩ := HW5.out w4 w5 hd5 ht5 HO4.out HB4.out
                        have HAV := Lib.hid hav; have HS6 := Lib.hid hS6; have HB6 := Lib.hid hB6
                        clear hd5 ht5 ho5 hav hS6 hB6
                        rcases Int.lt_or_le 0 cutv with hcv | hcv
                        · have e5 : decide (0 < cutv) = true := by simpa using hcv
                          rw [if_pos hcv] at HAV HS6
                          go_wp2_with (first | (go_at_call 39; refine (Num_any _ _).mono ?_; rintro e w' ⟨rfl, rfl⟩))
                          go_meet
                          exact ⟨_, cutv - 1, writes + 1, upd f m T.data.toList, by omega, by rw [← HAV.out], rfl, rfl, HS6.out, HB6.out⟩
                        · have e5 : decide (0 < cutv) = false := by simp; omega
                          rw [if_neg (show ¬ 0 < cutv by omega)] at HAV HS6
                          go_wp2_with (first | (go_at_call 39; refine (Num_any _ _).mono ?_; rintro e w' ⟨rfl, rfl⟩))
                          go_meet
                          exact ⟨_, cutv, writes + 1, upd f m T.data.toList, by omega, by rw [← HAV.out], rfl, rfl, HS6.out, HB6.out⟩
            have b0 : (kd == 0) = false := beq_eq_false_iff_ne.2 (by omega)
            have b1 : (kd == 1) = false := beq_eq_false_iff_ne.2 (by omega)
            clear k2 k3 k01
            as_aux_lemma =>
              go_wp2_with fail
              (with_reducible refine (On_any HD0.out).mono ?_); rintro e w5 ⟨rfl, hd5, ht5⟩
              have HN : Hid (Same k p w.heap.size G f true (-1) writes w5) := ⟨false, left, hd5, HFL.out, hl1, hl2, .inl ⟨rfl, rfl, rfl⟩, own_turned (own_below HOWN.out HBA.out) ht5 (by simp; omega), hgp, hgd⟩
              have HBN : Hid (Below w.heap.size w w5) := HB0.out.trans (ht5.below HB0.out.size (by intro j hj; simp at hj; omega))
              clear hd5 ht5
              go_wp2_with (first | (go_at_call 39; refine (Num_any _ _).mono ?_; rintro e w' ⟨rfl, rfl⟩))
              go_meet
              exact ⟨true, -1, writes, f, by omega, rfl, rfl, rfl, HN.out, HBN.out⟩
          case rest =>
            as_aux_lemma =>
            obtain ⟨alive', cutv', writes', f', hw', rfl, rfl, rfl, hS', hB'⟩ := hcut
            have HSN := Lib.hid hS'; have HBN := Lib.hid hB'
            obtain ⟨cutB', left', hdk', hfl', _⟩ := hS'
            have HAL := Lib.hid (Alive_any hdk')
            rw [Bool.not_not] at HAL
            have HWR := Lib.hid (Writes_any hdk')
            have HBK : Hid (Calls Try.prog 59 #[P p] wc fun e w' => e = .returned (.int .i64 (k : Int)) ∧ wc = w') := by
              have := Blocks_any hdk' (by rw [cat_len _ hfl']; omega)
              rw [cat_len _ hfl', show 256 * k / 256 = k from by omega] at this
              exact this
            clear hB' hdk' hfl' HLEN HT1 HT2 HO1 HBL HFL HCUT HOWN HD0 HSB HB0 q0 q1 q2 q3 c0 c1 c2 c3 HSM HBB
            go_wp2_with fail
            (with_reducible refine HAL.out.mono ?_); rintro e w' ⟨rfl, rfl⟩
            cases alive' <;>
            · go_wp2_with fail
              (with_reducible refine HWR.out.mono ?_); rintro e w' ⟨rfl, rfl⟩
              go_wp2_with fail
              (with_reducible refine HBK.out.mono ?_); rintro e w' ⟨rfl, rfl⟩
              go_wp2_with fail
              go_roundw
              case rel => exact ⟨i + 1, _, cutv', writes', f', by omega, by omega, hw', by go_num, rfl, rfl, rfl, HSN.out, HBN.out⟩
              case measure => simp [intOf]; omega
        · as_aux_lemma =>
            obtain ⟨cutB, left, hdk, hfl, _, _, _, hown, _⟩ := hS
            have HIM := Lib.hid (Image_any hdk)
            have HOWN := Lib.hid hown; have HFL := Lib.hid hfl
            clear hdk hown hfl hB HSM HST
            by_cases hil : i < len
            · have e1 : decide (i < len) = true := by simpa using hil
              have e2 : decide ((i : Int) < 200) = false := by simp; omega
              go_wp2_with fail
              go_loop [20, 21] (fun s20 s21 => ∃ j : Nat, j ≤ k ∧ s21 = .int .i64 j ∧ s20 = .string ⟨(cat f j).toArray⟩) (fun _ j => k - (intOf j).toNat)
              case atStart => exact ⟨0, Nat.zero_le _, rfl, rfl⟩
              case round =>
                obtain ⟨j, hj, rfl, rfl⟩ := hrel
                by_cases hjl : j < k
                · have hcj : wr.cell? ⟨G, j, none⟩ = some (.string ⟨(f j).toArray⟩) := by rw [HOWN.out.cellAt j (by omega), onV_get _ _ _ (by omega)]
                  have HAP : Hid ((⟨(cat f j).toArray⟩ : ByteArray) ++ ⟨(f j).toArray⟩ = ⟨(cat f (j + 1)).toArray⟩) := by
                    apply ByteArray.ext
                    simp [ByteArray.data_append, cat]
                  have hsz1 : (⟨(cat f j).toArray⟩ : ByteArray).size ≤ 100000 := by rw [str_size, cat_len f HFL.out]; omega
                  have hsz2 : (⟨(f j).toArray⟩ : ByteArray).size ≤ 256 := by rw [str_size, HFL.out]; omega
                  generalize (⟨(cat f j).toArray⟩ : ByteArray) = T1 at *
                  generalize (⟨(f j).toArray⟩ : ByteArray) = T2 at *
                  go_wp2_with fail
                  go_round
                  case rel => exact ⟨j + 1, by omega, by go_num, by rw [HAP.out]⟩
                  case measure => simp [intOf]; omega
                · obtain rfl : j = k := by omega
                  generalize (⟨(cat f j).toArray⟩ : ByteArray) = T1 at *
                  go_wp2_with (first | (go_at_call 39; refine (Num_any _ _).mono ?_; rintro e w' ⟨rfl, rfl⟩))
                  (with_reducible refine HIM.out.mono ?_); rintro e w' ⟨rfl, rfl⟩
                  go_wp2_with fail
                  (with_reducible refine (awake _).mono ?_); rintro e w7 ⟨rfl, hb7⟩
                  go_wp2
                  go_ret
                  exact ⟨rfl, HBB.out.trans (hb7.mono HBB.out.size)⟩
            · have e1 : decide (i < len) = false := by simpa using hil
              go_wp2_with fail
              go_loop [20, 21] (fun s20 s21 => ∃ j : Nat, j ≤ k ∧ s21 = .int .i64 j ∧ s20 = .string ⟨(cat f j).toArray⟩) (fun _ j => k - (intOf j).toNat)
              case atStart => exact ⟨0, Nat.zero_le _, rfl, rfl⟩
              case round =>
                obtain ⟨j, hj, rfl, rfl⟩ := hrel
                by_cases hjl : j < k
                · have hcj : wr.cell? ⟨G, j, none⟩ = some (.string ⟨(f j).toArray⟩) := by rw [HOWN.out.cellAt j (by omega), onV_get _ _ _ (by omega)]
                  have HAP : Hid ((⟨(cat f j).toArray⟩ : ByteArray) ++ ⟨(f j).toArray⟩ = ⟨(cat f (j + 1)).toArray⟩) := by
                    apply ByteArray.ext
                    simp [ByteArray.data_append, cat]
                  have hsz1 : (⟨(cat f j).toArray⟩ : ByteArray).size ≤ 100000 := by rw [str_size, cat_len f HFL.out]; omega
                  have hsz2 : (⟨(f j).toArray⟩ : ByteArray).size ≤ 256 := by rw [str_size, HFL.out]; omega
                  generalize (⟨(cat f j).toArray⟩ : ByteArray) = T1 at *
                  generalize (⟨(f j).toArray⟩ : ByteArray) = T2 at *
                  go_wp2_with fail
                  go_round
                  case rel => exact ⟨j + 1, by omega, by go_num, by rw [HAP.out]⟩
                  case measure => simp [intOf]; omega
                · obtain rfl : j = k := by omega
                  generalize (⟨(cat f j).toArray⟩ : ByteArray) = T1 at *
                  go_wp2_with (first | (go_at_call 39; refine (Num_any _ _).mono ?_; rintro e w' ⟨rfl, rfl⟩))
                  (with_reducible refine HIM.out.mono ?_); rintro e w' ⟨rfl, rfl⟩
                  go_wp2_with fail
                  (with_reducible refine (awake _).mono ?_); rintro e w7 ⟨rfl, hb7⟩
                  go_wp2
                  go_ret
                  exact ⟨rfl, HBB.out.trans (hb7.mono HBB.out.size)⟩
end Go.Proofs.Ytjaljnpgomfmfaa.disk
