/-
  Proved: the Go function oriellaw10.InodeTexts returns true for every input, and its arguments read afterwards as before. Conditions: none.
  The frame follows the kit's template.
-/
import Derived.Test.YtjaljnpgomfmfaaRows
import Derived.Test.YtjaljnpgomfmfaaInodeOpen
import Derived.WalkKit
import Derived.ProofKit
import Derived.OpenShut
import Derived.ShutString
import Derived.Below
import Derived.Lib.SmallJoins
import Derived.SizedLaws
namespace Go.Proofs.Ytjaljnpgomfmfaa.inodeTexts
open Go.ChangeShapes Go.WideShapes Go.ChangeAt Go.RowKit Go.Joins
open Go.ChangeMaps (open_string shut_string)
set_option linter.unusedVariables false

theorem own : ownKnob Try.prog.godebug = none := by kernel_rfl
theorem laidOut : laidOutB Try.prog = true := by kernel_rfl

theorem walk (k0 s0 : Int) (a0 : Option Addr) (n0 ca0 : Nat) (ex0 : Nat → inode.Ext) (w : World) (w0 : inode.ExtsIn w a0 n0 ex0) (y0 : a0 = none → ca0 = 0) (z0 : n0 * 16 ≤ 140737488351232) :
    Calls Try.prog 11 #[.agg #[.int .i64 k0, .int .i64 s0, .slice a0 n0 ca0]] w fun e w' => e = .returned (.bool true) ∧ Below w.heap.size w w' := by
  exact inode.texts k0 s0 a0 n0 ca0 ex0 w w0 y0 z0


set_option maxRecDepth 100000 in
theorem lifted (os : Os) (started : os.Started) (H : Type) (enc : TypeId × Value → H) :
    ReturnsInHanded {} Try.checked os 11 .any (Rows.inodeTextsSpec.pre6 enc Try.prog Try.f11 Rows.inodeTextsRow.domain false) (Rows.inodeTextsSpec.post enc Try.prog Try.f11 false true false false) := by
  refine returnsInHanded_of_change_sized (C := Try.checked) own started (by kernel_rfl) Try.func11
    (ChangeSpec.witness6 (enc := enc) (C := Try.checked) false ⟨#[], #[.agg #[.int .i64 0, .int .i64 0, .slice none 0 0]], []⟩ 8 (by kernel_rfl) (by kernel_rfl) (by kernel_rfl) (by kernel_rfl)) ?_
  intro W base args ds gs before hval0 hW hcnd hsz0 _
  have hval : ∀ (j : Nat) t v, Try.f11.params[j]? = some t → args[j]? = some v → Value.okWide Try.prog W .any base t v := hval0
  have hsz : (DataW.weightsEach Try.prog (Try.f11.params.toList ++ Rows.inodeTextsSpec.plain.varTypes Try.prog) (ds ++ gs)).all (· ≤ reachBytes) = true := hsz0
  have hW' := hW
  obtain ⟨p, q, hA0, hV, rfl, hfz, hnd⟩ := hW
  have hA : DataW.TrodAll enc Try.prog W 0 (fun _ => true) true Try.f11.params.toList args.toList ds p := hA0
  rw [Try.params11] at hA hval hsz
  obtain ⟨v0, vs0, d0, ds0, p0, q0, hargs, rfl, rfl, h0, r0⟩ := trodAll_cons hA
  obtain ⟨rfl, rfl, rfl⟩ := trodAll_nil r0
  obtain rfl : args = #[v0] := by cases args; simp_all
  obtain ⟨rfl, rfl⟩ := trodVars_none hV
  have k0 := h0
  have lt0 : ∀ x ∈ p0, x.block < W.heap.size := by obtain ⟨m, hm⟩ := k0; exact DataW.trod_lt m _ _ _ hm
  obtain ⟨c0, c1, c2, y0, y1, y2, m, rfl, rfl, rfl, hy0, hy1, hy2⟩ := open_agg3 Try.underlying73 (by kernel_rfl) (by kernel_rfl) (hval 0 73 v0 rfl rfl) h0
  obtain ⟨k0', e0, rfl, _⟩ := DataW.trod_int Try.underlying3 hy0
  obtain ⟨s0, e1, rfl, _⟩ := DataW.trod_int Try.underlying3 hy1
  simp at e0 e1; subst e0 e1
  obtain ⟨a0, n0, ca0, ex0, rfl, w0, y0', z0⟩ := inode.exts_open hy2 (by
    simp only [DataW.weightsEach, List.append_nil, List.cons_append, List.nil_append, DataW.weights, Try.underlying73, List.all_append, Bool.and_eq_true] at hsz
    simpa [DataW.weightsEach, DataW.weights] using hsz)
  clear hA0
  refine (walk k0' s0 a0 n0 ca0 ex0 W w0 y0' z0).mono fun e W' ⟨he, hg⟩ => ?_
  subst he
  exact ⟨_, rfl, _, _, _, [], _, [], hW', trodAll_mk1 (shut_bool Try.underlying4 _), (trodAll_cons_mk (Below.trod laidOut (by kernel_rfl) (of_decide_eq_true (by kernel_rfl)) k0 hg lt0) trodAll_mk0), rfl, hg.frame _, fun h => by cases h⟩

theorem proved : Rows.InodeTextsSaid :=
  OpenClaim.holds_of_wide 11 Try.f11 rfl rfl rfl rfl rfl rfl rfl ⟨rfl, rfl, rfl, rfl, rfl⟩ rfl rfl rfl rfl rfl (by kernel_rfl) Try.func11 (by kernel_rfl)
    (of_decide_eq_true (by kernel_rfl)) (by unfold Func.isWrapper; first | (rw [if_pos (by decide +kernel)]; kernel_rfl) | (rw [if_neg (by decide +kernel)]; exact ⟨rfl, rfl⟩))
    (fun os started H enc _ => lifted os started H enc)
#print axioms proved
end Go.Proofs.Ytjaljnpgomfmfaa.inodeTexts
