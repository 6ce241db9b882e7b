/-
  Proved: what an api.Image that comes in holds, and how large it is. Conditions: as each theorem says.
-/
import Derived.Test.YtifhnpkapgaboaaPk48
import Derived.Test.YtifhnpkapgaboaaPk50
import Derived.SizedLaws
namespace Go.Proofs.Ytifhnpkapgaboaa.arch
open Go.RowKit Go.ChangeShapes Go.WideShapes Go.Deep
set_option linter.unusedVariables false
set_option maxRecDepth 100000

/-- An entries' reading. -/
def EsW {H : Type} (es : List Ent) (y : DataW H) : Prop := (es = [] ∧ y = .nil) ∨ ∃ sp, y = .slice (es.map entW) sp
theorem layers_open {H : Type} {enc : TypeId × Value → H} {w : World} {base : Nat} {spare : Nat → Bool} {held : Bool} {fuel : Nat} {v : Value} {x : DataW H × List MemPlace}
    (h : DataW.trod enc Try.prog w base spare held fuel 35 [v] = some x) :
    ∃ (A : Option Addr) (ls : List (List Ent)) (c : Nat), v = .slice A ls.length c ∧ LIn w A c ls ∧ c ≤ maxLen ∧ ((ls = [] ∧ x.1 = .nil) ∨ ∃ xs sp, x.1 = .slice xs sp ∧ xs.length = ls.length ∧ ∀ (i : Nat) (es : List Ent), ls[i]? = some es → ∃ y, xs[i]? = some (.agg [y]) ∧ EsW es y) := by
  rcases open_slice Try.underlying35 h with ⟨h0, hx⟩ | ⟨A, l, c, m, n, D, Pl, hcs, hb, hl, hm, hmm, hx, hi⟩
  · simp at h0
    exact ⟨none, [], 0, h0, ⟨Nat.le_refl _, .inl rfl⟩, Nat.zero_le _, .inl ⟨rfl, by rw [hx]⟩⟩
  · simp at hcs
    have hml : l ≤ m := by rw [hmm]; split <;> omega
    have hC : Try.prog.cellsOf 24 = 1 := by kernel_rfl
    have hS : Try.prog.cellsOf 22 = 1 := by kernel_rfl
    rw [hC] at hi
    have key : ∀ i, ∃ (es : List Ent), i < l → ∃ Ai ci y, w.cell? ((A.add (i * 1)).add 0) = some (.slice Ai es.length ci) ∧ EIn w Ai ci es ∧ ci ≤ maxLen ∧ D i = .agg [y] ∧ EsW es y := by
      intro i
      by_cases hil : i < l
      · obtain ⟨cs, hc, ht⟩ := hi i (by omega)
        obtain ⟨_, hlen, hat⟩ := World.cells?_some hc
        obtain ⟨y0, k, hx, -, h0⟩ := trod_struct1 Try.underlying24 ht
        obtain ⟨c0, rfl⟩ : ∃ c0, cs = [c0] := List.length_eq_one_iff.1 hlen
        simp only [Prod.mk.injEq] at hx
        simp [hS] at h0
        obtain ⟨Ai, es, ci, rfl, h1, h2, h3⟩ := entries_open h0
        exact ⟨es, fun _ => ⟨Ai, ci, y0.1, hat 0 (by omega), h1, h2, hx.1, h3⟩⟩
      · exact ⟨[], fun h => absurd h hil⟩
    obtain ⟨ex, hst⟩ := Classical.axiomOfChoice key
    have hlen : ((List.range l).map ex).length = l := by simp
    have hget : ∀ (i : Nat) (es : List Ent), ((List.range l).map ex)[i]? = some es → i < l ∧ ex i = es := fun i es he => by
      have hil : i < l := by
        have := (List.getElem?_eq_some_iff.1 he).1
        rwa [hlen] at this
      rw [List.getElem?_map, List.getElem?_range hil] at he
      exact ⟨hil, by simpa using he⟩
    refine ⟨some A, (List.range l).map ex, c, by rw [hlen]; exact hcs, ⟨by rw [hlen]; exact hl, ?_⟩, hm, .inr ⟨(List.range l).map D, _, by rw [hx], by simp, fun i es he => ?_⟩⟩
    · by_cases hl0 : l = 0
      · left; subst hl0; rfl
      · right
        obtain ⟨b, off, spot⟩ := A
        have hspot : spot = none := by
          obtain ⟨Ai, ci, y, h1, -⟩ := hst 0 (by omega)
          simpa [Addr.add] using World.cell?_spot h1
        subst hspot
        refine ⟨b, off, rfl, fun i es he => ?_⟩
        obtain ⟨hil, rfl⟩ := hget i es he
        obtain ⟨Ai, ci, y, h1, h2, h3, -⟩ := hst i hil
        rw [add4 _ _ _ rfl] at h1
        exact ⟨Ai, ci, by simpa using h1, h2, by unfold maxLen at h3; omega⟩
    · obtain ⟨hil, rfl⟩ := hget i es he
      obtain ⟨Ai, ci, y, h1, h2, h3, h4, h5⟩ := hst i hil
      exact ⟨y, by rw [List.getElem?_map, List.getElem?_range hil]; simp [h4], h5⟩
theorem image_open {H : Type} {enc : TypeId × Value → H} {w : World} {base : Nat} {spare : Nat → Bool} {held : Bool} {r : Reach} {b0 : Nat} {v : Value} {d : DataW H} {p : List MemPlace}
    (hv : Value.okWide Try.prog w r b0 37 v) (h : DataW.Trod enc Try.prog w base spare held 37 v d p) :
    ∃ (A : Option Addr) (ls : List (List Ent)) (c : Nat) (x : DataW H), v = .agg #[.slice A ls.length c] ∧ d = .agg [x] ∧ LIn w A c ls ∧ c ≤ maxLen ∧ ((ls = [] ∧ x = .nil) ∨ ∃ xs sp, x = .slice xs sp ∧ xs.length = ls.length ∧ ∀ (i : Nat) (es : List Ent), ls[i]? = some es → ∃ y, xs[i]? = some (.agg [y]) ∧ EsW es y) := by
  have hC : Try.prog.cellsOf 37 = 1 := by kernel_rfl
  have hS : Try.prog.cellsOf 35 = 1 := by kernel_rfl
  obtain ⟨cs, rfl, hsz⟩ := okWide_struct Try.underlying37 hv
  rw [hC] at hsz
  obtain ⟨c0, rfl⟩ : ∃ c0, cs = #[c0] := Array.size_eq_one_iff.1 hsz
  obtain ⟨fuel, hf⟩ := h
  obtain ⟨y0, n, hx, -, h0⟩ := trod_struct1 Try.underlying37 hf
  simp only [Prod.mk.injEq] at hx
  simp [Value.cells, hS] at h0
  obtain ⟨A, ls, c, rfl, h1, h2, h3⟩ := layers_open h0
  exact ⟨A, ls, c, y0.1, rfl, hx.1, h1, h2, h3⟩
theorem weights_mem_all {H : Type} {P : Program} {e : TypeId} : ∀ {ds : List (DataW H)} {d : DataW H}, d ∈ ds → ∀ n ∈ d.weights P e, n ∈ DataW.weightsAll P e ds
  | x :: r, d, hd, n, hn => by
    simp only [DataW.weightsAll, List.mem_append]
    rcases List.mem_cons.1 hd with rfl | hd
    · exact .inl hn
    · exact .inr (weights_mem_all hd n hn)
theorem ents_weigh {H : Type} {es : List Ent} {y : DataW H} (h : EsW es y) (hw : ∀ n ∈ y.weights Try.prog 22, n ≤ reachBytes) : es.length ≤ 2932031007400 ∧ ∀ x ∈ es, x.path.length ≤ reachBytes ∧ x.data.length ≤ reachBytes := by
  rcases h with ⟨rfl, -⟩ | ⟨sp, rfl⟩
  · exact ⟨Nat.zero_le _, fun x hx => by cases hx⟩
  · have hB : Try.prog.bytesOf 52 = 48 := by kernel_rfl
    simp only [DataW.weights, Try.underlying22, hB, List.length_map] at hw
    refine ⟨?_, fun x hx => ?_⟩
    · have := hw _ (List.mem_cons_self ..)
      unfold reachBytes at this
      omega
    · have h1 : ∀ n ∈ (entW (H := H) x).weights Try.prog 52, n ≤ reachBytes := fun n hn =>
        hw n (List.mem_cons_of_mem _ (List.mem_append_left _ (weights_mem_all (List.mem_map_of_mem hx) n hn)))
      simp only [entW, DataW.weights, Try.underlying52] at h1
      simp only [List.map_cons, List.map_nil, DataW.weightsEach, DataW.weights, List.cons_append, List.nil_append, List.append_nil, List.mem_cons, List.not_mem_nil, or_false, forall_eq_or_imp, forall_eq] at h1
      exact ⟨by simpa using h1.1, by simpa using h1.2⟩
theorem image_weigh {H : Type} {ls : List (List Ent)} {x : DataW H} (h : (ls = [] ∧ x = .nil) ∨ ∃ xs sp, x = .slice xs sp ∧ xs.length = ls.length ∧ ∀ (i : Nat) (es : List Ent), ls[i]? = some es → ∃ y, xs[i]? = some (.agg [y]) ∧ EsW es y)
    (hw : ∀ n ∈ (DataW.agg [x]).weights Try.prog 37, n ≤ reachBytes) : ls.length ≤ 5864062014800 ∧ (∀ es ∈ ls, es.length ≤ 2932031007400) ∧ ∀ es ∈ ls, ∀ e ∈ es, big e := by
  rcases h with ⟨rfl, -⟩ | ⟨xs, sp, rfl, hlen, hall⟩
  · exact ⟨Nat.zero_le _, (fun x hx => by cases hx), (fun x hx => by cases hx)⟩
  · have hB : Try.prog.bytesOf 24 = 24 := by kernel_rfl
    simp only [DataW.weights, Try.underlying37] at hw
    simp only [List.map_cons, List.map_nil, DataW.weightsEach, DataW.weights, Try.underlying35, hB, List.append_nil] at hw
    have key : ∀ es ∈ ls, es.length ≤ 2932031007400 ∧ ∀ x ∈ es, x.path.length ≤ reachBytes ∧ x.data.length ≤ reachBytes := fun es hes => by
      obtain ⟨i, hi⟩ := List.mem_iff_getElem?.1 hes
      obtain ⟨y, hy, hE⟩ := hall i es hi
      refine ents_weigh hE fun n hn => ?_
      refine hw n (List.mem_cons_of_mem _ (List.mem_append_left _ (weights_mem_all (List.mem_of_getElem? hy) n ?_)))
      simp only [DataW.weights, Try.underlying24, List.map_cons, List.map_nil, DataW.weightsEach, List.append_nil]
      exact hn
    refine ⟨?_, fun es hes => (key es hes).1, fun es hes e he => ?_⟩
    · have := hw _ (List.mem_cons_self ..)
      unfold reachBytes at this
      omega
    · have := (key es hes).2 e he
      unfold reachBytes at this
      exact ⟨by omega, by omega⟩
end Go.Proofs.Ytifhnpkapgaboaa.arch
