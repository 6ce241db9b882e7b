/-
  Proved: what the document's small questions on entries give. Conditions: as each theorem says.
-/
import Derived.Test.YtifhnpkapgaboaaArchP
import Derived.Deep.QuietTactic
import Derived.BigQuiet
import Derived.Deep.LoopGhost
namespace Go.Proofs.Ytifhnpkapgaboaa.arch
open Go.RowKit
open heap
open path (sv str_size cleanB belowB)
set_option linter.unusedVariables false
set_option linter.unusedSimpArgs false
set_option maxRecDepth 100000

theorem still {P : Program} {f : FuncId} {args : Array Value} {w : World} {n : Nat} {v : Value}
    (h : Calls P f args (w.drewN n) fun e w' => e = .returned v ∧ w.drewN n = w') : Calls P f args (w.drewN n) fun e w'' => e = .returned v ∧ ∃ m, w'' = w.drewN m :=
  h.mono fun _ _ ⟨he, hm⟩ => ⟨he, n, hm.symm⟩
theorem drewN_add (w : World) (n : Nat) : ∀ m, (w.drewN n).drewN m = w.drewN (n + m)
  | 0 => rfl
  | m + 1 => by show ((w.drewN n).drewN m).drew = (w.drewN (n + m)).drew; rw [drewN_add w n m]
theorem still2 {P : Program} {f : FuncId} {args : Array Value} {w : World} {n : Nat} {v : Value}
    (h : Calls P f args (w.drewN n) fun e w' => e = .returned v ∧ ∃ m, w' = (w.drewN n).drewN m) : Calls P f args (w.drewN n) fun e w'' => e = .returned v ∧ ∃ m, w'' = w.drewN m :=
  h.mono fun _ _ ⟨he, m, hm⟩ => ⟨he, n + m, by rw [hm, drewN_add]⟩
theorem below_drewN {n : Nat} {w w' : World} (h : Below n w w') : ∀ k : Nat, Below n w (w'.drewN k)
  | 0 => h
  | k + 1 => (below_drewN h k).drew
abbrev entV (e : Ent) : Value := .agg #[.string ⟨e.path.toArray⟩, .int .i64 e.kind, .int .i64 e.mode, .string ⟨e.data.toArray⟩]
abbrev entO (e : Ent) : Obj := .cells #[.string ⟨e.path.toArray⟩, .int .i64 e.kind, .int .i64 e.mode, .string ⟨e.data.toArray⟩] 52 (0, 0)
/-- Entries lie in memory. -/
def EAt (w : World) (b o : Nat) (es : List Ent) : Prop := ∀ i e, es[i]? = some e → w.cell? ⟨b, o + i * 4, none⟩ = some (.string ⟨e.path.toArray⟩) ∧ w.cell? ⟨b, o + i * 4 + 1, none⟩ = some (.int .i64 e.kind) ∧ w.cell? ⟨b, o + i * 4 + 2, none⟩ = some (.int .i64 e.mode) ∧ w.cell? ⟨b, o + i * 4 + 3, none⟩ = some (.string ⟨e.data.toArray⟩)
theorem EAt.below {w w' : World} {b o : Nat} {es : List Ent} (h : EAt w b o es) (hb : Below w.heap.size w w') : EAt w' b o es := fun i e he => by
  obtain ⟨h0, h1, h2, h3⟩ := h i e he
  have hl := World.block_lt_of_cell? w _ h0
  rw [hb.cell (p := ⟨b, o + i * 4, none⟩) hl, hb.cell (p := ⟨b, o + i * 4 + 1, none⟩) hl, hb.cell (p := ⟨b, o + i * 4 + 2, none⟩) hl, hb.cell (p := ⟨b, o + i * 4 + 3, none⟩) hl]
  exact ⟨h0, h1, h2, h3⟩
theorem EAt.take {w : World} {b o : Nat} {es : List Ent} (h : EAt w b o es) (n : Nat) : EAt w b o (es.take n) := fun i e he => h i e (by
  rw [List.getElem?_take] at he
  split at he
  · exact he
  · cases he)
set_option maxHeartbeats 1000000 in
theorem target_any (l : Nm) (w : World) (hs : l.length ≤ 9223372036854775806) :
    Calls Try.prog 81 #[sv l] w fun e w' => e = .returned (.bool (!decide ((0 : UInt8) ∈ l))) ∧ w = w' := by
  have z := str_size l
  go_enter Try.func81, Try.ntmps81
  go_wp2_with fail
  go_loopg [3] l.length (fun kk v3 wr => ∃ j : Nat, j + kk = l.length ∧ v3 = .int .i64 j ∧ Hid ((0 : UInt8) ∉ l.take j) ∧ w = wr)
  case atStart => exact ⟨0, by omega, rfl, by simp [Hid], rfl⟩
  case round =>
    obtain ⟨j, hjk, rfl, HN, rfl⟩ := hrel
    by_cases hlt : j < l.length
    · cases gk with
      | zero => omega
      | succ gk =>
      have hz : j < (⟨l.toArray⟩ : ByteArray).size := by rw [z]; exact hlt
      obtain ⟨x, hx⟩ : ∃ x : UInt8, (⟨l.toArray⟩ : ByteArray)[j]'hz = x := ⟨_, rfl⟩
      have HX : Hid (l[j]'hlt = x) := hx
      have HM := Lib.hid (path.mem_take_succ l j 0 hlt)
      by_cases e1 : x = 0
      · have HT : Hid (decide ((0 : UInt8) ∈ l) = true) := by
          have h1 : l[j]'hlt = 0 := HX.out.trans e1
          exact decide_eq_true (h1 ▸ List.getElem_mem hlt)
        subst e1
        clear HM
        go_wp2_with fail
        go_ret
        exact ⟨by rw [HT.out]; rfl, rfl⟩
      · have HN2 : Hid ((0 : UInt8) ∉ l.take (j + 1)) := by
          rw [Hid, HM.out]
          rintro (h | h)
          · exact HN.out h
          · exact e1 (HX.out.symm.trans h)
        obtain ⟨c, hc⟩ : ∃ c : Nat, x.toNat = c := ⟨_, rfl⟩
        have n2 : c ≠ 0 := fun h => e1 (UInt8.toNat_inj.1 (hc.trans h))
        have n4 : ((c : Int) == 0) = false := by rw [beq_eq_false_iff_ne]; omega
        clear HM e1
        go_wp2_with fail
        go_roundg gk
        case rel => exact ⟨j + 1, by omega, by go_num, HN2, rfl⟩
        case measure => omega
    · have hj2 : j = l.length := by omega
      subst hj2
      have HT : Hid (decide ((0 : UInt8) ∈ l) = false) := by
        have := HN.out
        rw [List.take_length] at this
        exact decide_eq_false this
      go_wp2_with fail
      go_ret
      exact ⟨by rw [HT.out]; rfl, rfl⟩
theorem rmode_any (e : Ent) (w : World) : Calls Try.prog 79 #[entV e] w fun r w' => r = .returned (.bool (modeB e.kind e.mode)) ∧ Below w.heap.size w w' := by
  have HB : Hid (Below w.heap.size w (w.alloc (entO e))) := (Below.refl _ _).alloc (Nat.le_refl _) _
  obtain ⟨p, k, m, d⟩ := e
  simp only at HB ⊢
  by_cases k3 : k = 3
  · subst k3
    go_enter Try.func79, Try.ntmps79
    go_wp2_with fail
    go_ret
    exact ⟨rfl, HB.out⟩
  · have b3 : (k == 3) = false := beq_eq_false_iff_ne.2 k3
    by_cases k4 : k = 4
    · subst k4
      clear k3 b3
      go_enter Try.func79, Try.ntmps79
      go_wp2_with fail
      go_ret
      exact ⟨rfl, HB.out⟩
    · have b4 : (k == 4) = false := beq_eq_false_iff_ne.2 k4
      have HM : Hid (modeB k m = (decide (0 ≤ m) && decide (m ≤ 511))) := by unfold Hid modeB; rw [if_neg k3, if_neg k4]
      clear k3 k4
      by_cases h0 : 0 ≤ m
      · have d0 : decide (0 ≤ m) = true := decide_eq_true h0
        rw [d0, Bool.true_and] at HM
        go_enter Try.func79, Try.ntmps79
        go_wp2_with fail
        go_ret
        exact ⟨by rw [HM.out]; rfl, HB.out⟩
      · have d0 : decide (0 ≤ m) = false := decide_eq_false h0
        rw [d0, Bool.false_and] at HM
        clear h0
        go_enter Try.func79, Try.ntmps79
        go_wp2_with fail
        go_ret
        exact ⟨by rw [HM.out]; rfl, HB.out⟩
theorem rlength_any (k : Int) (n : Nat) (w : World) : Calls Try.prog 80 #[.int .i64 k, .int .i64 n] w fun r w' => r = .returned (.bool (lenB k n)) ∧ w = w' := by
  by_cases k2 : k = 2
  · subst k2
    have HM : Hid (lenB 2 n = decide ((n : Int) ≤ 1024)) := by unfold Hid lenB; rw [if_pos rfl, decide_eq_decide]; omega
    go_enter Try.func80, Try.ntmps80
    go_wp2_with fail
    go_ret
    exact ⟨by rw [HM.out]; rfl, rfl⟩
  · have b2 : (k == 2) = false := beq_eq_false_iff_ne.2 k2
    by_cases k3 : k = 3
    · subst k3
      clear k2 b2
      by_cases h0 : 1 ≤ n
      · have d0 : decide ((1 : Int) ≤ (n : Int)) = true := decide_eq_true (by omega)
        have HM : Hid (lenB 3 n = decide ((n : Int) ≤ 64)) := by
          unfold Hid lenB
          rw [if_neg (by decide), if_pos rfl, decide_eq_true h0, Bool.true_and, decide_eq_decide]; omega
        clear h0
        go_enter Try.func80, Try.ntmps80
        go_wp2_with fail
        go_ret
        exact ⟨by rw [HM.out]; rfl, rfl⟩
      · have d0 : decide ((1 : Int) ≤ (n : Int)) = false := decide_eq_false (by omega)
        have HM : Hid (lenB 3 n = false) := by
          unfold Hid lenB
          rw [if_neg (by decide), if_pos rfl, decide_eq_false h0, Bool.false_and]
        clear h0
        go_enter Try.func80, Try.ntmps80
        go_wp2_with fail
        go_ret
        exact ⟨by rw [HM.out]; rfl, rfl⟩
    · have b3 : (k == 3) = false := beq_eq_false_iff_ne.2 k3
      have HM : Hid (lenB k n = ((n : Int) == 0)) := by
        unfold Hid lenB
        rw [if_neg k2, if_neg k3, Bool.eq_iff_iff, beq_iff_eq, beq_iff_eq]; omega
      clear k2 k3
      go_enter Try.func80, Try.ntmps80
      go_wp2_with fail
      go_ret
      exact ⟨by rw [HM.out]; rfl, rfl⟩
end Go.Proofs.Ytifhnpkapgaboaa.arch
