/-
  Proved: what KeptEntries does, and the document's Encode of a layer that came in. Conditions: as each theorem says.
-/
import Derived.Test.YtifhnpkapgaboaaPk41
namespace Go.Proofs.Ytifhnpkapgaboaa.arch
open Go.RowKit
open heap
open path (sv str_size)
set_option linter.unusedVariables false
set_option linter.unusedSimpArgs false
set_option maxRecDepth 100000

theorem eql_room (W : World) : (binOp .eql 52 (.agg #[.string ⟨#[126, 114, 111, 111, 109]⟩, .int .i64 0, .int .i64 0, .string ⟨#[]⟩]) (.agg #[.string ⟨#[126, 114, 111, 111, 109]⟩, .int .i64 0, .int .i64 0, .string ⟨#[]⟩])).run Try.prog W = .ok (.bool true) W := eql_ent roomE roomE W
theorem KeptEntries_any (es : List Ent) (A : Option Addr) (g c cap : Nat) (w : World) (h : EIn w A c es) (hg : EAt w g 0 (es ++ [roomE, roomE])) (hcap : es.length + 2 ≤ cap) (hcm : cap ≤ 9223372036854775807) (hc : c ≤ 9223372036854775807) :
    Calls Try.prog 12 #[.slice (some ⟨g, 0, none⟩) es.length cap, .slice A es.length c] w fun e w' => e = .returned (.bool true) ∧ Below w.heap.size w w' := by
  have HS := Lib.hid (SameEntries_same es A g c cap w h hg.left (by omega) hcm hc)
  have HG := Lib.hid hg
  have hlen : IntKind.i64.wrap ((es.length : Int) + 2) = (es.length : Int) + 2 := IntWalk.i64_in _ (by omega)
  have hlen1 : IntKind.i64.wrap ((es.length : Int) + 1) = (es.length : Int) + 1 := IntWalk.i64_in _ (by omega)
  clear h hg
  go_enter Try.func12, Try.ntmps12
  go_wp2_with fail
  refine HS.out.mono ?_; rintro e w1 ⟨rfl, hb⟩
  have HB := Lib.hid hb
  obtain ⟨x0, x1, x2, x3⟩ := HG.out.below hb es.length roomE (by simp)
  obtain ⟨y0, y1, y2, y3⟩ := HG.out.below hb (es.length + 1) roomE (by simp)
  clear hb HS HG
  simp only [roomE, Nat.zero_add] at x0 x1 x2 x3 y0 y1 y2 y3
  have heq := eql_room
  go_wp2_with fail
  go_ret
  exact ⟨rfl, HB.out⟩
theorem form_nil : formL [] = (0, 0) := rfl
theorem enc_nil : encL [] = ([79, 82, 76, 0], 0, 0) := by decide
theorem Form_none (A : Option Addr) (c : Nat) (w : World) : Calls Try.prog 27 #[.agg #[.slice A 0 c]] w fun r w' => r = .returned (.tuple #[.int .i64 0, .int .i64 0]) ∧ Below w.heap.size w w' := by
  have HB : Hid (Below w.heap.size w (w.alloc (.cells #[.slice A 0 c] 24 (0, 0)))) := (Below.refl _ _).alloc (Nat.le_refl _) _
  have hbx := blk_new w (.cells #[.slice A 0 c] 24 (0, 0))
  have q0 := blk_cell hbx 0
  have ql := blk_lt hbx
  simp only [List.getElem?_toArray, List.getElem?_cons_zero] at q0
  go_enter Try.func27, Try.ntmps27
  go_wp2_with fail
  change Code.wp _ _ _ _ (w.alloc (.cells #[.slice A 0 c] 24 (0, 0)))
  generalize (w.alloc (.cells #[.slice A 0 c] 24 (0, 0))) = w1 at *
  go_loopw [4] (fun v4 wr => v4 = .int .i64 0 ∧ w1 = wr) (fun _ _ => 0)
  case atStart => exact ⟨rfl, rfl⟩
  case round =>
    obtain ⟨rfl, rfl⟩ := hrel
    go_wp2_with fail
    go_ret2
    exact ⟨rfl, HB.out⟩
theorem stream_none (A : Option Addr) (c : Nat) (w : World) : Calls Try.prog 28 #[.agg #[.slice A 0 c]] w fun r w' => r = .returned (sv [79, 82, 76, 0]) ∧ Below w.heap.size w w' := by
  have HB : Hid (Below w.heap.size w (w.alloc (.cells #[.slice A 0 c] 24 (0, 0)))) := (Below.refl _ _).alloc (Nat.le_refl _) _
  have hbx := blk_new w (.cells #[.slice A 0 c] 24 (0, 0))
  have q0 := blk_cell hbx 0
  have ql := blk_lt hbx
  simp only [List.getElem?_toArray, List.getElem?_cons_zero] at q0
  go_enter Try.func28, Try.ntmps28
  go_wp2_with fail
  change Code.wp _ _ _ _ (w.alloc (.cells #[.slice A 0 c] 24 (0, 0)))
  generalize (w.alloc (.cells #[.slice A 0 c] 24 (0, 0))) = w1 at *
  go_loopw [3, 4] (fun v3 v4 wr => v3 = sv [79, 82, 76] ∧ v4 = .int .i64 0 ∧ w1 = wr) (fun _ _ _ => 0)
  case atStart => exact ⟨rfl, rfl, rfl⟩
  case round =>
    obtain ⟨rfl, rfl, rfl⟩ := hrel
    have hcat : (⟨([79, 82, 76] : Nm).toArray⟩ : ByteArray) ++ ⟨#[0]⟩ = ⟨([79, 82, 76, 0] : Nm).toArray⟩ := by rfl
    go_wp2_with fail
    go_ret
    exact ⟨rfl, HB.out⟩
theorem rEncode_none (A : Option Addr) (c : Nat) (w : World) : Calls Try.prog 10 #[.agg #[.slice A 0 c]] w fun r w' => r = .returned (.tuple #[sv [79, 82, 76, 0], .int .i64 0, .int .i64 0]) ∧ Below w.heap.size w w' := by
  have HB : Hid (Below w.heap.size w (w.alloc (.cells #[.slice A 0 c] 24 (0, 0)))) := (Below.refl _ _).alloc (Nat.le_refl _) _
  have HBX := Lib.hid (blk_new w (.cells #[.slice A 0 c] 24 (0, 0)))
  go_enter Try.func10, Try.ntmps10
  go_wp2_with fail
  refine (Form_none A c _).mono ?_; rintro r w1 ⟨rfl, hb⟩
  have hbx := blk_below HBX.out hb
  have q0 := blk_cell hbx 0
  have ql := blk_lt hbx
  simp only [List.getElem?_toArray, List.getElem?_cons_zero] at q0
  have HB1 := Lib.hid (HB.out.trans (hb.mono HB.out.size))
  clear hb HB HBX
  go_wp2_with fail
  refine (stream_none A c _).mono ?_; rintro r w2 ⟨rfl, hb⟩
  have HB2 := Lib.hid (HB1.out.trans (hb.mono HB1.out.size))
  have hsz : (⟨([79, 82, 76, 0] : Nm).toArray⟩ : ByteArray).size = 4 := by rfl
  clear hb HB1 q0 ql hbx
  go_wp2_with fail
  refine bodyPost_ret (v := .tuple #[sv [79, 82, 76, 0], .int .i64 0, .int .i64 0]) (by simp [results, Try.results10, go_sem]) rfl ?_
  exact ⟨rfl, HB2.out⟩
theorem rEncode_in (es : List Ent) (A : Option Addr) (c : Nat) (w : World) (h : EIn w A c es) (hcm : c ≤ 9223372036854775807) (hp : ∀ x ∈ es, small x) :
    Calls Try.prog 10 #[.agg #[.slice A es.length c]] w fun r w' => r = .returned (.tuple #[sv (encL es).1, .int .i64 (encL es).2.1, .int .i64 (encL es).2.2]) ∧ Below w.heap.size w w' := by
  rcases h.2 with rfl | ⟨b, o, rfl, he⟩
  · rw [enc_nil]; exact rEncode_none A c w
  · exact rEncode_any es b o c w he h.1 hcm hp
theorem writes_any (es : List Ent) (A : Option Addr) (c : Nat) (w : World) (h : EIn w A c es) (hcm : c ≤ 9223372036854775807) (hp : ∀ x ∈ es, small x) (hn : es.length ≤ 2932031007000) :
    Calls Try.prog 3 #[.agg #[.slice A es.length c]] w fun e w' => e = .returned (.bool true) ∧ Below w.heap.size w w' := by
  have HX := Lib.hid (blk_new w (.cells #[.slice A es.length c] 24 (0, 0)))
  have HB : Hid (Below w.heap.size w (w.alloc (.cells #[.slice A es.length c] 24 (0, 0)))) := (Below.refl _ _).alloc (Nat.le_refl _) _
  have HI := Lib.hid h
  have HP := Lib.hid hp
  clear h hp
  go_enter Try.func3, Try.ntmps3
  go_wp2_with fail
  refine (LendLayer_any es A c _ (HI.out.below HB.out) hn).mono ?_; rintro e w1 ⟨g, cap, rfl, hr, hb⟩
  obtain ⟨hat, hg0, hg1, hcap, hcapm, -⟩ := lent_at hr
  have HG := Lib.hid hat
  have HX1 := Lib.hid (blk_below HX.out hb)
  have HB1 := Lib.hid (HB.out.trans (hb.mono HB.out.size))
  clear hr hb HX HB hat
  go_wp2_with fail
  have HB2 : Hid (Below w.heap.size w (w1.alloc (.cells #[.slice (some ⟨g, 0, none⟩) es.length cap] 24 (0, 0)))) := HB1.out.alloc HB1.out.size _
  have HY := Lib.hid (blk_new w1 (.cells #[.slice (some ⟨g, 0, none⟩) es.length cap] 24 (0, 0)))
  have HX2 := Lib.hid (blk_old HX1.out (.cells #[.slice (some ⟨g, 0, none⟩) es.length cap] 24 (0, 0)))
  have HG2 := Lib.hid (HG.out.below ((Below.refl _ _).alloc (Nat.le_refl _) (.cells #[.slice (some ⟨g, 0, none⟩) es.length cap] 24 (0, 0))))
  clear HX1 HB1 HG
  change Calls _ _ _ (w1.alloc (.cells #[.slice (some ⟨g, 0, none⟩) es.length cap] 24 (0, 0))) _
  have hww : w1.heap.size ≠ w.heap.size := by have := blk_lt HX2.out; simp at hg0; omega
  generalize (w1.alloc (.cells #[.slice (some ⟨g, 0, none⟩) es.length cap] 24 (0, 0))) = w2 at *
  generalize w1.heap.size = by' at *
  refine (Encode_any es g 0 cap w2 HG2.out.left (by omega) hcapm HP.out).mono ?_; rintro e w3 ⟨rfl, hb⟩
  have HY3 := Lib.hid (blk_below HY.out hb)
  have HX3 := Lib.hid (blk_below HX2.out hb)
  have HB3 := Lib.hid (HB2.out.trans (hb.mono HB2.out.size))
  have HG3 := Lib.hid (HG2.out.below hb)
  clear hb HY HX2 HB2 HG2
  have x0 := blk_cell HX3.out 0
  have xl := blk_lt HX3.out
  simp only [List.getElem?_toArray, List.getElem?_cons_zero] at x0
  go_wp2_with fail
  refine (rEncode_in es A c w3 (HI.out.below HB3.out) hcm HP.out).mono ?_; rintro e w4 ⟨rfl, hb⟩
  have HY4 := Lib.hid (blk_below HY3.out hb)
  have HX4 := Lib.hid (blk_below HX3.out hb)
  have HB4 := Lib.hid (HB3.out.trans (hb.mono HB3.out.size))
  have HG4 := Lib.hid (HG3.out.below hb)
  clear hb HY3 HX3 HB3 HG3 x0 xl
  obtain ⟨s1, k1, f1⟩ := encL es
  have hs1 : ((⟨s1.toArray⟩ : ByteArray) == ⟨s1.toArray⟩) = true := (MapKept.bytes_beq _ _).2 rfl
  simp only
  go_wp2_with fail
  have x0 := blk_cell HX4.out 0
  have xl := blk_lt HX4.out
  have y0 := blk_cell HY4.out 0
  have yl := blk_lt HY4.out
  simp only [List.getElem?_toArray, List.getElem?_cons_zero] at x0 y0
  refine (Num_any _ _).mono ?_; rintro e w' ⟨rfl, rfl⟩
  go_wp2_with fail
  refine (KeptEntries_any es A g c cap w4 (HI.out.below HB4.out) HG4.out hcap hcapm (by omega)).mono ?_; rintro e w5 ⟨rfl, hb⟩
  have HB5 := Lib.hid (HB4.out.trans (hb.mono HB4.out.size))
  clear hb
  go_wp2_with fail
  refine (awake_any _).mono ?_; rintro e w6 ⟨rfl, hb⟩
  have HB6 := Lib.hid (HB5.out.trans (hb.mono HB5.out.size))
  clear hb
  go_wp2_with fail
  go_ret
  exact ⟨rfl, HB6.out⟩
end Go.Proofs.Ytifhnpkapgaboaa.arch
