/-
  Proved: what inode.Encode gives. Conditions: as each theorem says.
-/
import Derived.Test.YtjaljnpgomfmfaaInode2
import Derived.Test.YtjaljnpgomfmfaaShelf
namespace Go.Proofs.Ytjaljnpgomfmfaa.inode
open Go.RowKit
open heap
open num (Num_any list_len leS leE leGood U64)
set_option linter.unusedVariables false

def headB (kind size : Int) (len : Nat) : List UInt8 := ((le kind.toNat 1 ++ le len 1) ++ le 0 2) ++ le size.toNat 4
def bodyB (kind size : Int) (len : Nat) (ex : Nat → Ext) : Nat → List UInt8
  | 0 => headB kind size len
  | k + 1 => (bodyB kind size len ex k ++ le (ex k).1.toNat 2) ++ le (ex k).2.toNat 2
theorem headB_len (kind size : Int) (len : Nat) : (headB kind size len).length = 8 := by simp [headB, le_len]
theorem bodyB_len (kind size : Int) (len : Nat) (ex : Nat → Ext) (k : Nat) : (bodyB kind size len ex k).length = 8 + 4 * k := by
  induction k with
  | zero => simp [bodyB, headB_len]
  | succ k ih => simp [bodyB, le_len, ih]; omega
/-- An inode's bytes. -/
def inoB (kind size : Int) (len : Nat) (ex : Nat → Ext) : List UInt8 := bodyB kind size len ex len ++ List.replicate (56 - 4 * len) 0
theorem put1 (w : World) (p : Nat) (l : List UInt8) (x : Int) (h : LayAt w p l) (hl : l.length ≤ 1000) (hx0 : 0 ≤ x) (hx : x < 256) :
    Calls Try.prog 78 #[P p, .int .i64 x, .int .i64 1] w (PutPost p (l ++ le x.toNat 1) w) :=
  put_any w p l x 1 h hl (by omega) (by omega) hx0 (by show _ < 256; omega) (by omega)
theorem put2 (w : World) (p : Nat) (l : List UInt8) (x : Int) (h : LayAt w p l) (hl : l.length ≤ 1000) (hx0 : 0 ≤ x) (hx : x < 65536) :
    Calls Try.prog 78 #[P p, .int .i64 x, .int .i64 2] w (PutPost p (l ++ le x.toNat 2) w) :=
  put_any w p l x 2 h hl (by omega) (by omega) hx0 (by show _ < 65536; omega) (by omega)
theorem put4 (w : World) (p : Nat) (l : List UInt8) (x : Int) (h : LayAt w p l) (hl : l.length ≤ 1000) (hx0 : 0 ≤ x) (hx : x < 65537) :
    Calls Try.prog 78 #[P p, .int .i64 x, .int .i64 4] w (PutPost p (l ++ le x.toNat 4) w) :=
  put_any w p l x 4 h hl (by omega) (by omega) hx0 (by show _ < 4294967296; omega) (by omega)
/-- A box of three cells keeps them where another block is turned. -/
def Box3 (B : Nat) (v0 v1 v2 : Value) (w : World) : Prop := w.cell? ⟨B, 0, none⟩ = some v0 ∧ w.cell? ⟨B, 1, none⟩ = some v1 ∧ w.cell? ⟨B, 2, none⟩ = some v2
theorem keep3 {w w' : World} {B p : Nat} {v0 v1 v2 : Value} (h : w.cell? ⟨B, 0, none⟩ = some v0 ∧ w.cell? ⟨B, 1, none⟩ = some v1 ∧ w.cell? ⟨B, 2, none⟩ = some v2) (ht : Turned [p] w w') (hn : B ≠ p) :
    w'.cell? ⟨B, 0, none⟩ = some v0 ∧ w'.cell? ⟨B, 1, none⟩ = some v1 ∧ w'.cell? ⟨B, 2, none⟩ = some v2 :=
  ⟨ht.cell h.1 (by simpa using hn), ht.cell h.2.1 (by simpa using hn), ht.cell h.2.2 (by simpa using hn)⟩
theorem keep2 {w w' : World} {B p : Nat} {v0 v1 : Value} (h : w.cell? ⟨B, 0, none⟩ = some v0 ∧ w.cell? ⟨B, 1, none⟩ = some v1) (ht : Turned [p] w w') (hn : B ≠ p) :
    w'.cell? ⟨B, 0, none⟩ = some v0 ∧ w'.cell? ⟨B, 1, none⟩ = some v1 :=
  ⟨ht.cell h.1 (by simpa using hn), ht.cell h.2 (by simpa using hn)⟩
theorem LayAt.drew {w : World} {p : Nat} {l : List UInt8} (h : LayAt w p l) : LayAt w.drew p l := h
theorem LayAt.new (w : World) : LayAt (w.alloc (.cells #[.string ⟨#[]⟩] 93)) w.heap.size [] := blk_new _ _
theorem repeat_zero (c : Nat) (hc : c ≤ 64) (w : World) : Calls Try.prog 79 #[.string ⟨#[0]⟩, .int .i64 c] w fun e w' => e = .returned (.string ⟨(List.replicate c 0).toArray⟩) ∧ Below w.heap.size w w' := by
  have h := Try.strings_Repeat ⟨#[0]⟩ c w (by omega) (by show 1 * c ≤ _; omega)
  have h2 : Lib.repeatL (⟨#[0]⟩ : ByteArray).data.toList c = List.replicate c 0 := by
    have := Lib.repeatL_replicate 0 1 c
    rw [Nat.mul_one] at this
    exact this
  rw [h2] at h
  exact h

set_option maxRecDepth 100000 in
set_option maxHeartbeats 1600000 in
theorem Encode_no (kind size : Int) (a : Option Addr) (len cap : Nat) (ex : Nat → Ext) (w : World) (hx : ExtsIn w a len ex) (hm : len ≤ 9223372036854775807) (h : mayI kind size len ex = false) :
    Calls Try.prog 62 #[inoV kind size a len cap] w fun e w' => e = .returned (.tuple #[.string ⟨#[]⟩, .int .i64 1000]) ∧ Below w.heap.size w w' := by
  have HX := Lib.hid hx
  have HH := Lib.hid h
  have HM : Hid (∀ w : World, ExtsIn w a len ex → Calls Try.prog 77 #[inoV kind size a len cap] w fun e w' => e = .returned (.bool false) ∧ Below w.heap.size w w') := fun w hx => by
    rw [← HH.out]; exact may_any kind size a len cap ex w hx hm
  clear hx h
  have hba : Below w.heap.size w (w.alloc (.cells #[.int .i64 kind, .int .i64 size, .slice a len cap] 73)) := (Below.refl _ _).alloc (Nat.le_refl _) _
  have HBA := Lib.hid hba
  clear hba
  go_enter Try.func62, Try.ntmps62
  go_wp2_with fail
  (with_reducible refine (HM.out _ (HX.out.below HBA.out)).mono ?_); rintro e w1 ⟨rfl, hb1⟩
  go_wp2
  go_ret2
  exact ⟨rfl, HBA.out.trans (hb1.mono HBA.out.size)⟩

set_option maxRecDepth 100000 in
set_option maxHeartbeats 1600000 in
theorem Encode_yes (kind size : Int) (a : Option Addr) (len cap : Nat) (ex : Nat → Ext) (w : World) (hx : ExtsIn w a len ex) (h : mayI kind size len ex = true) :
    Calls Try.prog 62 #[inoV kind size a len cap] w fun e w' => e = .returned (.tuple #[.string ⟨(inoB kind size len ex).toArray⟩, .int .i64 0]) ∧ Below w.heap.size w w' := by
  have h' : 0 ≤ kind ∧ kind < 256 ∧ 0 ≤ size ∧ size < 65537 ∧ len ≤ 14 ∧ okTo ex len = true := by
    simp only [mayI, Bool.and_eq_true, Bool.not_eq_true', decide_eq_false_iff_not] at h
    obtain ⟨⟨h1, h2⟩, -⟩ := h
    unfold headBad at h1
    refine ⟨?_, ?_, ?_, ?_, ?_, h2⟩ <;> omega
  obtain ⟨k0, k1, s0, s1, l14, hok⟩ := h'
  have HOK := Lib.hid hok
  have HX := Lib.hid hx
  have HH := Lib.hid h
  have HM : Hid (∀ w : World, ExtsIn w a len ex → Calls Try.prog 77 #[inoV kind size a len cap] w fun e w' => e = .returned (.bool true) ∧ Below w.heap.size w w') := fun w hx => by
    rw [← HH.out]; exact may_any kind size a len cap ex w hx (by omega)
  clear hx h hok
  have hba : Below w.heap.size w (w.alloc (.cells #[.int .i64 kind, .int .i64 size, .slice a len cap] 73)) := (Below.refl _ _).alloc (Nat.le_refl _) _
  have HBA := Lib.hid hba
  have HNEW := Lib.hid (blk_new w (.cells #[.int .i64 kind, .int .i64 size, .slice a len cap] 73 (0, 0)))
  clear hba
  go_enter Try.func62, Try.ntmps62
  go_wp2_with fail
  (with_reducible refine (HM.out _ (HX.out.below HBA.out)).mono ?_); rintro e w2 ⟨rfl, hb1⟩
  have hB2 := blk_below HNEW.out hb1
  have HBW : Hid (Below w.heap.size w w2) := HBA.out.trans (hb1.mono HBA.out.size)
  clear hb1
  have hlt := blk_lt hB2
  have q0 : w2.cell? ⟨w.heap.size, 0, none⟩ = some (.int .i64 kind) := by rw [blk_cell hB2]; rfl
  have q1 : w2.cell? ⟨w.heap.size, 1, none⟩ = some (.int .i64 size) := by rw [blk_cell hB2]; rfl
  have q2 : w2.cell? ⟨w.heap.size, 2, none⟩ = some (.slice a len cap) := by rw [blk_cell hB2]; rfl
  clear hB2
  have hne : w.heap.size ≠ w2.heap.size := by omega
  have hl0 : (0 : Int) ≤ (len : Int) := by omega
  have hl1 : (len : Int) < 256 := by omega
  go_wp2_with fail
  go_region_held3 (fun w' => w'.cell? ⟨w.heap.size, 0, none⟩ = some (.int .i64 kind) ∧ w'.cell? ⟨w.heap.size, 1, none⟩ = some (.int .i64 size) ∧ w'.cell? ⟨w.heap.size, 2, none⟩ = some (.slice a len cap))
    (first | exact ⟨q0, q1, q2⟩ | exact keep3 (by assumption) (by assumption) hne | exact keep3 (p := w2.heap.size) (by assumption) ((Turned.refl _ _).alloc _) hne)
    (first
      | (go_at_call_of 78 (Value.int .i64 kind); (with_reducible refine (put1 _ _ _ _ (LayAt.new w2).drew ?_ k0 k1).mono ?_); (exact Nat.zero_le _); rintro e w3 ⟨rfl, hL3, hT3⟩)
      | (go_at_call_of 78 (Value.int .i64 (len : Int)); (with_reducible refine (put1 _ _ _ _ hL3 ?_ hl0 hl1).mono ?_); (simp only [List.nil_append, List.length_append, le_len]; decide); rintro e w4 ⟨rfl, hL4, hT4⟩)
      | (go_at_call_of 78 (Value.int .i64 size); (with_reducible refine (put4 _ _ _ _ hL5 ?_ s0 s1).mono ?_); (simp only [List.nil_append, List.length_append, le_len]; decide); rintro e w6 ⟨rfl, hL6, hT6⟩)
      | (go_at_call_of 78 (Value.int .i64 0); (with_reducible refine (put2 _ _ _ _ hL4 ?_ (by decide) (by decide)).mono ?_); (simp only [List.nil_append, List.length_append, le_len]; decide); rintro e w5 ⟨rfl, hL5, hT5⟩))
  rename_i hHeld
  have r2 := hHeld.2.2
  have HL6 : Hid (LayAt w6 w2.heap.size (bodyB kind size len ex 0)) := hL6
  have HB6 : Hid (Below w.heap.size w w6) := by
    have ht : Turned [w2.heap.size] w2 w6 := ((((Turned.refl _ _).alloc _).drew.trans hT3).trans hT4).trans (hT5.trans hT6)
    exact HBW.out.trans (ht.below (Nat.le_of_lt hlt) (by simp; omega))
  clear hHeld hL3 hL4 hL5 hL6 hT3 hT4 hT5 hT6 q0 q1 q2 HBA HNEW HM
  generalize hp : w2.heap.size = p at *
  have hpw : w.heap.size ≤ p := by omega
  clear hp
  go_wp2_with fail
  go_loopw [26] (fun i wr => ∃ k : Nat, k ≤ len ∧ i = .int .i64 k ∧ Hid (LayAt wr p (bodyB kind size len ex k)) ∧ Hid (Below w.heap.size w wr)) (fun i _ => len - (intOf i).toNat)
  case atStart => exact ⟨0, Nat.zero_le _, rfl, HL6, HB6⟩
  case round =>
    obtain ⟨k, hk, rfl, HL, HB⟩ := hrel
    have hblen := bodyB_len kind size len ex k
    by_cases hlt : k < len
    · obtain ⟨b, off, rfl, hbw, hcells⟩ := (HX.out.below HB.out) (by omega)
      obtain ⟨c0, c1⟩ := hcells k hlt
      have hg : ¬ extBad (ex k) := by
        have := okTo_le HOK.out (show k + 1 ≤ len by omega)
        simp only [okTo, Bool.and_eq_true, Bool.not_eq_true', decide_eq_false_iff_not] at this
        exact this.2
      have HLS : Hid (bodyB kind size len ex (k + 1) = (bodyB kind size len ex k ++ le (ex k).1.toNat 2) ++ le (ex k).2.toNat 2) := rfl
      unfold extBad at hg
      generalize (ex k).1 = ef at *
      generalize (ex k).2 = el at *
      have g1 : 0 ≤ ef := by omega
      have g2 : ef < 65536 := by omega
      have g3 : 0 ≤ el := by omega
      have g4 : el < 65536 := by omega
      have hpl := blk_lt HL.out
      have hne2 : wr.heap.size ≠ p := by omega
      clear hcells hg r2
      have HLN : Hid (LayAt (wr.alloc (.cells #[.int .i64 ef, .int .i64 el] 41)) p (bodyB kind size len ex k)) := blk_old HL.out _
      have n0 : (wr.alloc (.cells #[.int .i64 ef, .int .i64 el] 41)).cell? ⟨wr.heap.size, 0, none⟩ = some (.int .i64 ef) := by simp
      have n1 : (wr.alloc (.cells #[.int .i64 ef, .int .i64 el] 41)).cell? ⟨wr.heap.size, 1, none⟩ = some (.int .i64 el) := by simp
      go_wp2_with fail
      go_region_held3 (fun w' => w'.cell? ⟨wr.heap.size, 0, none⟩ = some (.int .i64 ef) ∧ w'.cell? ⟨wr.heap.size, 1, none⟩ = some (.int .i64 el))
        (first | exact ⟨n0, n1⟩ | exact keep2 (by assumption) (by assumption) hne2)
        (first
          | (go_at_call_of 78 (Value.int .i64 ef); (with_reducible refine (put2 _ _ _ _ HLN.out.drew ?_ g1 g2).mono ?_); omega; rintro e w3 ⟨rfl, hL3, hT3⟩)
          | (go_at_call_of 78 (Value.int .i64 el); (with_reducible refine (put2 _ _ _ _ hL3 ?_ g3 g4).mono ?_); (simp only [List.length_append, le_len, hblen]; omega); rintro e w4 ⟨rfl, hL4, hT4⟩))
      rename_i hHeld
      rw [← HLS.out] at hL4
      have HL4 := Lib.hid hL4
      have HB4 : Hid (Below w.heap.size w w4) := by
        have ht : Turned [p] wr w4 := (((Turned.refl _ _).alloc _).drew.trans hT3).trans hT4
        exact HB.out.trans (ht.below HB.out.size (by simp; omega))
      clear hHeld hL3 hL4 hT3 hT4 n0 n1 c0 c1
      go_wp2_with fail
      go_roundw
      case rel => exact ⟨k + 1, by omega, by go_num, HL4, HB4⟩
      case measure => simp [intOf]; omega
    · obtain rfl : k = len := by omega
      have hL := HL.out
      have hc0 : wr.cell? ⟨p, 0, none⟩ = some (.string ⟨(bodyB kind size k ex k).toArray⟩) := by rw [blk_cell hL]; rfl
      have hlen64 : (⟨(bodyB kind size k ex k).toArray⟩ : ByteArray).size = 8 + 4 * k := by rw [str_size, bodyB_len]
      have HRES : Hid ((⟨(bodyB kind size k ex k).toArray⟩ : ByteArray) ++ ⟨(List.replicate (56 - 4 * k) 0).toArray⟩ = ⟨(inoB kind size k ex).toArray⟩) := join _ _
      have HRS : Hid ((⟨(List.replicate (56 - 4 * k) (0 : UInt8)).toArray⟩ : ByteArray).size = 56 - 4 * k) := by rw [Hid, str_size]; simp
      have HREP : Hid (∀ w : World, Calls Try.prog 79 #[.string ⟨#[0]⟩, .int .i64 (IntKind.i64.wrap (64 - (8 + 4 * (k : Int))))] w fun e w' => e = .returned (.string ⟨(List.replicate (56 - 4 * k) 0).toArray⟩) ∧ Below w.heap.size w w') := fun w => by
        have := repeat_zero (56 - 4 * k) (by omega) w
        have e : ((56 - 4 * k : Nat) : Int) = IntKind.i64.wrap (64 - (8 + 4 * (k : Int))) := by rw [IntKind.wrap_i64]; omega
        rw [e] at this
        exact this
      generalize (⟨(bodyB kind size k ex k).toArray⟩ : ByteArray) = T1 at *
      have hrs := HRS.out
      generalize (⟨(List.replicate (56 - 4 * k) (0 : UInt8)).toArray⟩ : ByteArray) = T2 at *
      have hpl3 : p < wr.heap.size := blk_lt hL
      have hlim : ¬ 9223372036854775807 < 8 + 4 * k + (56 - 4 * k) := by omega
      clear hL hblen
      go_wp2_with fail
      go_region_held3 (fun w' => w'.cell? ⟨p, 0, none⟩ = some (.string T1))
        (first | exact hc0 | exact (hb3.cell (p := ⟨p, 0, none⟩) hpl3).trans hc0)
        (first
          | (go_at_call 79; (with_reducible refine (HREP.out _).mono ?_); rintro e w3 ⟨rfl, hb3⟩))
      go_wp2
      go_ret2
      have hb4 : Below wr.heap.size wr w3 := ⟨hb3.os, hb3.tape, hb3.output, hb3.size, hb3.block⟩
      exact ⟨by rw [← HRES.out]; rfl, HB.out.trans (hb4.mono HB.out.size)⟩
theorem Encode_any (kind size : Int) (a : Option Addr) (len cap : Nat) (ex : Nat → Ext) (w : World) (hx : ExtsIn w a len ex) (hm : len ≤ 9223372036854775807) :
    Calls Try.prog 62 #[inoV kind size a len cap] w fun e w' => e = .returned (.tuple #[.string (if mayI kind size len ex then ⟨(inoB kind size len ex).toArray⟩ else ⟨#[]⟩), .int .i64 (if mayI kind size len ex then 0 else 1000)]) ∧ Below w.heap.size w w' := by
  cases h : mayI kind size len ex with
  | false => exact Encode_no kind size a len cap ex w hx hm h
  | true => exact Encode_yes kind size a len cap ex w hx h
end Go.Proofs.Ytjaljnpgomfmfaa.inode
