/-
  Proved: what orielref0.Decimal gives for one digit; that awake says true. Conditions: as each theorem says.
-/
import Derived.Test.YtdbonbdgoekkcaaMounts5
import Derived.Test.YtdbonbdgoekkcaaBytes
namespace Go.Proofs.Ytdbonbdgoekkcaa.mounts
open Go.RowKit Go.Shelf
open heap path
set_option linter.unusedVariables false

theorem infoB : (Try.prog.info? 5).map (fun i => (i.zero, i.size, i.bytes)) = some (some (.int .u8 0), 1, 1) := by kernel_rfl
theorem app_nil (w : World) (g : Nat) : (Builtin.append_ #[45, 45] 45 #[.slice (some ⟨g, 0, none⟩) 1 1, .slice none 0 0]).run Try.prog w = .ok (.slice (some ⟨g, 0, none⟩) 1 1) w := by
  obtain ⟨i0, hi, hz0, hz1, hz2⟩ := info_parts infoB
  exact run_append_nothing w _ _ _ 5 i0 Try.underlying45 hi _ 1 1 (Nat.le_refl _) _ (Src.ofNil w Try.underlying45 0)
set_option maxRecDepth 100000 in
set_option maxHeartbeats 1000000 in
theorem Decimal_one (d : Nat) (hd : d ≤ 9) (w : World) : Calls Try.prog 7 #[.int .i64 d] w fun e w' => e = .returned (sv [UInt8.ofNat (48 + d)]) ∧ Below w.heap.size w w' := by
  have hu : IntKind.u64.wrap (d : Int) = d := by rw [IntKind.wrap_u64]; omega
  have HA := Lib.hid (fun W : World => app_nil W w.heap.size)
  go_enter Try.func7, Try.ntmps7
  go_wp2_with fail
  go_loopw [3, 4] (fun vs vo wr => (vs = .int .u64 d ∧ vo = .slice none 0 0 ∧ Hid (w = wr)) ∨ (vs = .int .u64 0 ∧ vo = .slice (some ⟨w.heap.size, 0, none⟩) 1 1 ∧ Hid (wr = w.alloc (.cells #[.int .u8 (48 + d)] 5 (0, 0))))) (fun vs vo _ => match vo with | .slice none _ _ => 1 | _ => 0)
  case atStart => exact .inl ⟨rfl, rfl, rfl⟩
  case round =>
    rcases hrel with ⟨rfl, rfl, HW⟩ | ⟨rfl, rfl, HW⟩
    · obtain rfl := HW.out
      have h10 : (d : Int) % 10 = d := by omega
      have hq : (d : Int) / 10 = 0 := by omega
      go_wp2_with (at_builtin; refine reg.wpList_append rfl rfl rfl rfl rfl (HA.out _) ?_)
      go_roundw
      case rel => exact .inr ⟨rfl, rfl, by first | exact rfl | trivial⟩
      case measure => simp
    · obtain rfl := HW.out
      have hdn : decide ((d : Int) < 0) = false := decide_eq_false (by omega)
      have hcv : (convert 45 9 (.slice (some ⟨w.heap.size, 0, none⟩) 1 1)).run Try.prog (w.alloc (.cells #[.int .u8 (48 + d)] 5 (0, 0))) = .ok (sv [UInt8.ofNat (48 + d)]) (w.alloc (.cells #[.int .u8 (48 + d)] 5 (0, 0))) := by
        have hr : row.RowIs (w.alloc (.cells #[.int .u8 (48 + d)] 5 (0, 0))) w.heap.size [UInt8.ofNat (48 + d)] := by
          refine ⟨_, 0, 0, blk_new _ _, by simp, by simp, fun i hi => ?_⟩
          have hm : (48 + d) % 256 = 48 + d := by omega
          match i, hi with
          | 0, _ => simp [row.byteV]; omega
        exact hr.conv 1
      have HB : Hid (Below w.heap.size w (w.alloc (.cells #[.int .u8 (48 + d)] 5 (0, 0)))) := (Below.refl _ _).alloc (Nat.le_refl _) _
      go_wp2_with fail
      go_ret
      exact ⟨rfl, HB.out⟩
end Go.Proofs.Ytdbonbdgoekkcaa.mounts
