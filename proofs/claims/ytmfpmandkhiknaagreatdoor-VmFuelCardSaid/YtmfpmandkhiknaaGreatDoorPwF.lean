/-
  Proved: with less fuel a machine does the beginning of what it does with more (plain). Conditions: as each theorem says. No program is in sight.
  Proved: VmFuel says true. Conditions: as each theorem says.
-/
import Derived.Test.YtmfpmandkhiknaaGreatDoorPw41
set_option linter.unusedVariables false
set_option linter.unusedSimpArgs false
namespace Go.Proofs.YtmfpmandkhiknaaGreatDoor.vmm
open Go Go.RowKit Ieee
open flt
set_option linter.unusedVariables false

/-- The same machine with more fuel. -/
def addF (m : Mac) (d : Int) : Mac := { m with fuel := m.fuel + d }
theorem push_add (m : Mac) (d : Int) (v : Val) : pushM (addF m d) v = match pushM m v with
    | .ok m2 => .ok (addF m2 d)
    | .error e => .error e := by
  unfold pushM
  show (if _ then _ else if 64 ≤ m.stack.length then _ else _) = _
  split
  · rfl
  · split <;> rfl
theorem pop_add (m : Mac) (d : Int) (n : Nat) : popM (addF m d) n = match popM m n with
    | .ok (vs, m2) => .ok (vs, addF m2 d)
    | .error e => .error e := by
  unfold popM
  show (if m.stack.length < n then _ else _) = _
  split <;> rfl
theorem ask_add (m : Mac) (d : Int) (g : List UInt8) (vs : List Val) : askM (addF m d) g vs = match askM m g vs with
    | .ok m2 => .ok (addF m2 d)
    | .error e => .error e := by
  unfold askM
  split
  · cases pureM g (vs.headD zeroV) with
    | error e => rfl
    | ok v => exact push_add m d v
  · cases argsM { noCal with op := (formM g).1 } vs (formM g).2 <;> rfl
theorem do_add (m : Mac) (d : Int) (i : Ins) : doM (addF m d) i = match doM m i with
    | .ok m2 => .ok (addF m2 d)
    | .error e => .error e := by
  unfold doM
  by_cases e0 : i.op = 0
  · rw [if_pos e0, if_pos e0]; rfl
  rw [if_neg e0, if_neg e0]
  by_cases e1 : i.op = 1
  · rw [if_pos e1, if_pos e1]; exact push_add _ _ _
  rw [if_neg e1, if_neg e1]
  by_cases e2 : i.op = 2
  · rw [if_pos e2, if_pos e2]; exact push_add _ _ _
  rw [if_neg e2, if_neg e2]
  by_cases e3 : i.op = 3
  · rw [if_pos e3, if_pos e3]; exact push_add _ _ _
  rw [if_neg e3, if_neg e3]
  by_cases e4 : i.op = 4
  · rw [if_pos e4, if_pos e4, pop_add]
    cases popM m 1 with
    | error e => rfl
    | ok x => rfl
  rw [if_neg e4, if_neg e4]
  by_cases e18 : i.op = 18
  · rw [if_pos e18, if_pos e18, pop_add]
    cases popM m 1 with
    | error e => rfl
    | ok x => rfl
  rw [if_neg e18, if_neg e18]
  by_cases e15 : i.op = 15
  · rw [if_pos e15, if_pos e15]; rfl
  rw [if_neg e15, if_neg e15]
  by_cases e16 : i.op = 16
  · rw [if_pos e16, if_pos e16, pop_add]
    cases popM m 1 with
    | error e => rfl
    | ok x =>
      obtain ⟨vs, m2⟩ := x
      simp only
      split <;> rfl
  rw [if_neg e16, if_neg e16]
  by_cases e5 : i.op = 5
  · rw [if_pos e5, if_pos e5, pop_add]
    cases popM m 1 with
    | error e => rfl
    | ok x =>
      obtain ⟨vs, m2⟩ := x
      simp only
      split
      · rfl
      · exact push_add _ _ _
  rw [if_neg e5, if_neg e5]
  by_cases e6 : i.op = 6
  · rw [if_pos e6, if_pos e6, pop_add]
    cases popM m 1 with
    | error e => rfl
    | ok x => exact push_add _ _ _
  rw [if_neg e6, if_neg e6]
  by_cases e17 : i.op = 17
  · rw [if_pos e17, if_pos e17, pop_add]
    cases popM m i.arg.toNat with
    | error e => rfl
    | ok x => exact ask_add _ _ _ _
  rw [if_neg e17, if_neg e17]
  by_cases e19 : i.op = 19
  · rw [if_pos e19, if_pos e19, pop_add]
    cases popM m 1 with
    | error e => rfl
    | ok x => rfl
  rw [if_neg e19, if_neg e19, pop_add]
  cases popM m 2 with
  | error e => rfl
  | ok x =>
    obtain ⟨vs, m2⟩ := x
    simp only
    cases binaryM i.op (vs.headD zeroV) (vs.getD 1 zeroV) with
    | error e => rfl
    | ok v => exact push_add _ _ _
/-- Where fuel is left, a round does the same. -/
theorem round_add (m : Mac) (d : Int) (h : m.fuel ≠ 0 ∨ (m.code.length : Int) ≤ m.pc) (h2 : m.fuel + d ≠ 0 ∨ (m.code.length : Int) ≤ m.pc) : roundM (addF m d) = addF (roundM m) d := by
  rw [round_eq, round_eq]
  show (if (m.code.length : Int) ≤ m.pc then _ else if m.fuel + d = 0 then _ else match doM (nextM (addF m d)) (atM m) with | .ok m2 => m2 | .error e => failM (nextM (addF m d)) e) = _
  by_cases hp : (m.code.length : Int) ≤ m.pc
  · rw [if_pos hp, if_pos hp]; rfl
  rw [if_neg hp, if_neg hp]
  rcases h with h | h
  · rcases h2 with h2 | h2
    · rw [if_neg h2, if_neg h]
      have e : nextM (addF m d) = addF (nextM m) d := by
        unfold nextM addF
        simp only
        congr 1
        omega
      rw [e, do_add]
      cases doM (nextM m) (atM m) with
      | ok m2 => rfl
      | error e => rfl
    · exact absurd h2 hp
  · exact absurd h hp
/-! what an instruction throws; what it leaves of the state -/
theorem push_err {m : Mac} {v : Val} {e : Bad} (h : pushM m v = .error e) : e.1 ≠ 2204 := by
  unfold pushM at h
  split at h
  · cases h; decide
  split at h
  · cases h; decide
  · cases h
theorem pop_err {m : Mac} {n : Nat} {e : Bad} (h : popM m n = .error e) : e.1 ≠ 2204 := by
  unfold popM at h
  split at h
  · cases h; decide
  · cases h
theorem pure_err {g : List UInt8} {v : Val} {e : Bad} (h : pureM g v = .error e) : e.1 ≠ 2204 := by
  unfold pureM at h
  split at h
  · split at h <;> cases h
  split at h
  · cases h
  split at h
  · split at h
    · cases h
    · cases h; decide
  · cases h
theorem args_err : ∀ (vs : List Val) (rs : List UInt8) (c : Cal) {e : Bad}, argsM c vs rs = .error e → e.1 ≠ 2204
  | [], rs, c, e, h => by rw [argsM] at h; cases h
  | v :: vs, rs, c, e, h => by
    rw [argsM] at h
    split at h
    · cases h; decide
    · exact args_err vs _ _ h
theorem binary_err {op : Int} {a b : Val} {e : Bad} (h : binaryM op a b = .error e) : e.1 ≠ 2204 := by
  unfold binaryM at h
  split at h
  · cases h
  split at h
  · cases h
  split at h
  · split at h
    · cases h; decide
    · cases h
  split at h
  · cases h; decide
  · cases h
/-- An outcome: no fault of fuel, no failed state. -/
def Fine (s : Int) (x : Except Bad Mac) : Prop := match x with
  | .ok m2 => m2.state = s ∨ m2.state = 1 ∨ m2.state = 2
  | .error e => e.1 ≠ 2204
theorem fine_push (m : Mac) (v : Val) : Fine m.state (pushM m v) := by
  cases h : pushM m v with
  | error e => exact push_err h
  | ok m2 => obtain ⟨rfl, -⟩ := push_keep h; exact .inl rfl
theorem fine_ask (m : Mac) (g : List UInt8) (vs : List Val) : Fine m.state (askM m g vs) := by
  unfold askM
  split
  · cases h : pureM g (vs.headD zeroV) with
    | error e => exact pure_err h
    | ok v => exact fine_push m v
  · cases h : argsM { noCal with op := (formM g).1 } vs (formM g).2 with
    | error e => exact args_err _ _ _ h
    | ok c => exact .inr (.inl rfl)
theorem fine_pop {m : Mac} {n : Nat} (f : List Val → Mac → Except Bad Mac) (hf : ∀ vs m2, m2.state = m.state → Fine m.state (f vs m2)) : Fine m.state (match popM m n with
    | .error e => .error e
    | .ok (vs, m2) => f vs m2) := by
  cases h : popM m n with
  | error e => exact pop_err h
  | ok x =>
    obtain ⟨vs, m2⟩ := x
    obtain ⟨s, rfl, -, -⟩ := pop_keep h
    exact hf vs _ rfl
theorem fine_pushS {m m2 : Mac} (h : m2.state = m.state) (v : Val) : Fine m.state (pushM m2 v) := h ▸ fine_push m2 v
theorem do_fine (m : Mac) (i : Ins) : Fine m.state (doM m i) := by
  unfold doM
  by_cases e0 : i.op = 0
  · rw [if_pos e0]; exact .inr (.inr rfl)
  rw [if_neg e0]
  by_cases e1 : i.op = 1
  · rw [if_pos e1]; exact fine_push _ _
  rw [if_neg e1]
  by_cases e2 : i.op = 2
  · rw [if_pos e2]; exact fine_push _ _
  rw [if_neg e2]
  by_cases e3 : i.op = 3
  · rw [if_pos e3]; exact fine_push _ _
  rw [if_neg e3]
  by_cases e4 : i.op = 4
  · rw [if_pos e4]; exact fine_pop (fun vs m2 => .ok { m2 with vars := m2.vars.set i.arg.toNat (vs.headD zeroV) }) (fun vs m2 h => .inl h)
  rw [if_neg e4]
  by_cases e18 : i.op = 18
  · rw [if_pos e18]; exact fine_pop (fun vs m2 => .ok m2) (fun vs m2 h => .inl h)
  rw [if_neg e18]
  by_cases e15 : i.op = 15
  · rw [if_pos e15]; exact .inl rfl
  rw [if_neg e15]
  by_cases e16 : i.op = 16
  · rw [if_pos e16]
    exact fine_pop (fun vs m2 => .ok (if truth (vs.headD zeroV) then m2 else { m2 with pc := i.arg })) (fun vs m2 h => by
      show _ ∨ _
      refine .inl ?_
      split <;> exact h)
  rw [if_neg e16]
  by_cases e5 : i.op = 5
  · rw [if_pos e5]
    exact fine_pop (fun vs m2 => if (vs.headD zeroV).isT then .error (2201, []) else pushM m2 (numV (cf (ng (vs.headD zeroV).num)))) (fun vs m2 h => by
      show Fine m.state (if _ then _ else _)
      split
      · show (2201 : Int) ≠ 2204; decide
      · exact fine_pushS h _)
  rw [if_neg e5]
  by_cases e6 : i.op = 6
  · rw [if_pos e6]; exact fine_pop (fun vs m2 => pushM m2 (flagV (!truth (vs.headD zeroV)))) (fun vs m2 h => fine_pushS h _)
  rw [if_neg e6]
  by_cases e17 : i.op = 17
  · rw [if_pos e17]; exact fine_pop (fun vs m2 => askM m2 i.text vs) (fun vs m2 h => h ▸ fine_ask m2 i.text vs)
  rw [if_neg e17]
  by_cases e19 : i.op = 19
  · rw [if_pos e19]; exact fine_pop (fun vs m2 => .error (2205, shown (vs.headD zeroV))) (fun vs m2 h => by show (2205 : Int) ≠ 2204; decide)
  rw [if_neg e19]
  exact fine_pop (fun vs m2 => match binaryM i.op (vs.headD zeroV) (vs.getD 1 zeroV) with
      | .error e => .error e
      | .ok v => pushM m2 v) (fun vs m2 h => by
    show Fine m.state (match binaryM i.op (vs.headD zeroV) (vs.getD 1 zeroV) with | .error e => .error e | .ok v => pushM m2 v)
    cases hb : binaryM i.op (vs.headD zeroV) (vs.getD 1 zeroV) with
    | error e => exact binary_err hb
    | ok v => exact fine_pushS h v)
/-- No fault of fuel. -/
def NoF (m : Mac) : Prop := m.state = 3 → m.errno ≠ 2204
theorem round_nof {m : Mac} (h : Fit m) (hs : m.state = 0) (hp : ¬ (m.code.length : Int) ≤ m.pc) (hf : m.fuel ≠ 0) : NoF (roundM m) ∧ (roundM m).fuel = m.fuel - 1 ∧ (roundM m).ran = m.ran + 1 := by
  rw [round_eq, if_neg hp, if_neg hf]
  have h1 := do_fine (nextM m) (atM m)
  cases hd : doM (nextM m) (atM m) with
  | ok m2 =>
    rw [hd] at h1
    have hk := do_keep hd
    refine ⟨fun (h3 : m2.state = 3) => ?_, hk.fuel, hk.ran⟩
    have e : (nextM m).state = 0 := hs
    rcases h1 with h4 | h4 | h4
    · rw [e] at h4; rw [h4] at h3; cases h3
    · rw [h4] at h3; cases h3
    · rw [h4] at h3; cases h3
  | error e =>
    rw [hd] at h1
    exact ⟨fun _ => h1, rfl, rfl⟩
theorem ran_mono (n : Nat) : ∀ m : Mac, Fit m → m.ran ≤ (runM n m).ran := by
  induction n with
  | zero => intro m _; exact Int.le_refl _
  | succ n ih =>
    intro m h
    rw [runM]
    split
    · rename_i hs
      refine Int.le_trans ?_ (ih _ h.round)
      by_cases hp : (m.code.length : Int) ≤ m.pc
      · rw [round_eq, if_pos hp]; exact Int.le_refl _
      by_cases hf : m.fuel = 0
      · rw [round_eq, if_neg hp, if_pos hf]; exact Int.le_refl _
      · rw [(round_nof h hs hp hf).2.2]; omega
    · exact Int.le_refl _
theorem Fit.add {m : Mac} (h : Fit m) {d : Int} (hd : 0 ≤ d) (hd2 : d ≤ 100000) (hs : m.ran + m.fuel ≤ 100000) : Fit (addF m d) :=
  ⟨h.pc0, h.pc1, h.few, by have := h.fuel; show 0 ≤ m.fuel + d; omega, h.ran, by show m.ran + (m.fuel + d) ≤ _; omega, h.fair, h.v64, h.sh, h.shv⟩
/-- Both run: alike, or the one with less comes to its end of fuel. -/
theorem lock (n : Nat) : ∀ (m : Mac) (d : Int) (n2 : Nat), Fit m → 0 ≤ d → d ≤ 100000 → m.ran + m.fuel ≤ 100000 → m.fuel < n → m.fuel + d < n2 → NoF m →
    (runM n2 (addF m d) = addF (runM n m) d ∧ NoF (runM n m) ∧ (runM n m).ran + (runM n m).fuel = m.ran + m.fuel) ∨ ((runM n m).state = 3 ∧ (runM n m).errno = 2204 ∧ (runM n m).ran = m.ran + m.fuel ∧ m.ran + m.fuel ≤ (runM n2 (addF m d)).ran) := by
  induction n with
  | zero => intro m d n2 h _ _ _ h1; have := h.fuel; omega
  | succ n ih =>
    intro m d n2 h hd hd2 hsum h1 h2 hno
    by_cases hs : m.state = 0
    · cases n2 with
      | zero => have := h.fuel; omega
      | succ n2 =>
      have hs2 : (addF m d).state = 0 := hs
      have r1 : runM (n + 1) m = runM n (roundM m) := by rw [runM, if_pos hs]
      have r2 : runM (n2 + 1) (addF m d) = runM n2 (roundM (addF m d)) := by rw [runM, if_pos hs2]
      rw [r1, r2]
      have hfu := h.fuel
      by_cases hp : (m.code.length : Int) ≤ m.pc
      · rw [round_add m d (.inr hp) (.inr hp)]
        have e : (roundM m) = { m with state := 2 } := by rw [round_eq, if_pos hp]
        have h3 : (roundM m).state ≠ 0 := by rw [e]; simp
        have h4 : (addF (roundM m) d).state ≠ 0 := h3
        rw [run_stop h3, run_stop h4]
        refine .inl ⟨rfl, fun h5 => ?_, by rw [e]⟩
        rw [e] at h5
        simp at h5
      · by_cases hf : m.fuel = 0
        · have e : roundM m = failM m (2204, []) := by rw [round_eq, if_neg hp, if_pos hf]
          have h3 : (roundM m).state ≠ 0 := by rw [e]; simp [failM]
          rw [run_stop h3, e]
          have h5 := ran_mono (n2 + 1) (addF m d) (h.add hd hd2 hsum)
          rw [r2] at h5
          refine .inr ⟨rfl, rfl, ?_, ?_⟩
          · show m.ran = m.ran + m.fuel; omega
          · have e2 : (addF m d).ran = m.ran := rfl
            omega
        · obtain ⟨h3, h4, h5⟩ := round_nof h hs hp hf
          rw [round_add m d (.inl hf) (.inl (by omega))]
          have := ih (roundM m) d n2 h.round hd hd2 (by omega) (by omega) (by omega) h3
          rw [show (roundM m).ran + (roundM m).fuel = m.ran + m.fuel by omega] at this
          exact this
    · have hs2 : (addF m d).state ≠ 0 := hs
      rw [run_stop hs, run_stop hs2]
      exact .inl ⟨rfl, hno, rfl⟩
/-- A machine that asks has done something. -/
theorem run_asks {n : Nat} {m : Mac} (h : Fit m) (hs : m.state = 0) (h1 : (runM n m).state = 1) : m.ran + 1 ≤ (runM n m).ran := by
  cases n with
  | zero => rw [runM, hs] at h1; cases h1
  | succ n =>
    rw [runM, if_pos hs] at h1 ⊢
    by_cases hp : (m.code.length : Int) ≤ m.pc
    · have e : roundM m = { m with state := 2 } := by rw [round_eq, if_pos hp]
      rw [run_stop (by rw [e]; simp), e] at h1
      simp at h1
    by_cases hf : m.fuel = 0
    · have e : roundM m = failM m (2204, []) := by rw [round_eq, if_neg hp, if_pos hf]
      rw [run_stop (by rw [e]; simp [failM]), e] at h1
      simp [failM] at h1
    · have := ran_mono n _ h.round
      have := (round_nof h hs hp hf).2.2
      omega
/-! an answer -/
theorem give_add (m : Mac) (d : Int) (i : Nat) : giveM (addF m d) i = addF (giveM m i) d := by
  have e : giveM (addF m d) i = behindM (addF (restM m) d) (pushM (addF (restM m) d) (giveV m.asked i)) := rfl
  have e2 : giveM m i = behindM (restM m) (pushM (restM m) (giveV m.asked i)) := rfl
  rw [e, e2, push_add]
  cases pushM (restM m) (giveV m.asked i) <;> rfl
theorem give_nof (m : Mac) (i : Nat) : NoF (giveM m i) ∧ (giveM m i).ran = m.ran ∧ (giveM m i).fuel = m.fuel ∧ ((giveM m i).state = 0 ∨ (giveM m i).state = 3) := by
  have e2 : giveM m i = behindM (restM m) (pushM (restM m) (giveV m.asked i)) := rfl
  rw [e2]
  cases h : pushM (restM m) (giveV m.asked i) with
  | ok m2 =>
    obtain ⟨rfl, -⟩ := push_keep h
    exact ⟨fun (h3 : (0 : Int) = 3) => (nomatch h3), rfl, rfl, .inl rfl⟩
  | error e => exact ⟨fun _ => push_err h, rfl, rfl, .inr rfl⟩
theorem Fit.give {m : Mac} (h : Fit m) (i : Nat) : Fit (giveM m i) := by
  have e2 : giveM m i = behindM (restM m) (pushM (restM m) (giveV m.asked i)) := rfl
  rw [e2]
  unfold behindM
  cases hp : pushM (restM m) (giveV m.asked i) with
  | ok m2 => exact h.rest.push hp
  | error e => exact h.rest.fail e
end Go.Proofs.YtmfpmandkhiknaaGreatDoor.vmm

namespace Go.Proofs.YtmfpmandkhiknaaGreatDoor.mkr
open Go Go.RowKit
open heap vmm
open lex (run_store_float add0)
set_option linter.unusedVariables false
set_option linter.unusedSimpArgs false
set_option maxRecDepth 100000
attribute [local go_sem] run_store_float

theorem modU (z : Int) (M : Nat) (hM : 0 < M) (hM2 : M ≤ 10000) : ∃ k : Nat, k < M ∧ wrap64 ((IntKind.u64.wrap z).tmod M) = (k : Int) := by
  have h0 : 0 ≤ IntKind.u64.wrap z := by
    unfold IntKind.wrap
    simp [IntKind.signed, IntKind.bits]
    omega
  generalize IntKind.u64.wrap z = u at *
  obtain ⟨n, rfl⟩ : ∃ n : Nat, u = n := ⟨u.toNat, by omega⟩
  refine ⟨n % M, Nat.mod_lt _ hM, ?_⟩
  have h1 : ((n : Int)).tmod (M : Int) = ((n % M : Nat) : Int) := by
    rw [Int.tmod_eq_emod_of_nonneg (by omega)]
    rfl
  rw [h1]
  have := Nat.mod_lt n hM
  exact IntWalk.wrap64_in _ (by omega)
/-- A code as New takes it, none being an empty one. -/
def codI (o : Option (List Ins)) : Is := match o with
  | none => []
  | some c => machC c
theorem new_g (b : Nat) (v : Value) (l : List UInt8) (f : Nat) (w0 w : World) (h : CodP (codeS l) w0 v w) (hf : f ≤ 20000) (hb : b ≤ w.heap.size) :
    Calls Tryz.prog 12 #[v, .int .i64 f] w fun e w' => ∃ p cv, e = .returned (.tuple #[.pointer (some ⟨p, 0, none⟩), .int .i64 0]) ∧ MO b w' p (newM ((codI (codeS l)).map (·.1)) f) cv (.slice none 0 0) (codI (codeS l)) ∧ w.heap.size ≤ p ∧ (∀ g ∈ cv.ownBlock.toList, w.heap.size ≤ g) ∧ Below w.heap.size w w' := by
  obtain ⟨-, h⟩ := h
  have hh : IRow w v (codI (codeS l)) ∧ (v = .slice none 0 0 ∨ codI (codeS l) ≠ []) ∧ (codI (codeS l)).length ≤ 1000000000 ∧ (∀ x ∈ codI (codeS l), fairM x.1 (codI (codeS l)).length = true) ∧ IsOk (codI (codeS l)) := by
    cases hc : codeS l with
    | none =>
      rw [hc] at h
      simp only at h
      subst h
      exact ⟨World.ownsRow_nil _ _ _ _, .inl rfl, by simp [codI], fun x hx => by simp [codI] at hx, fun x hx => by simp [codI] at hx⟩
    | some c =>
      rw [hc] at h
      have ho := codeS_ok hc
      refine ⟨machC_row h, .inr (fun e => ho.ne ?_), ?_, ho.fair, machC_ok ho.nums⟩
      · have e2 : machC c = [] := e
        unfold machC at e2
        simpa using e2
      · show (machC c).length ≤ _
        rw [machC_len]
        have := ho.few
        omega
  exact (New_any v _ f w hh.1 hh.2.1 hh.2.2.1 hh.2.2.2.1 hh.2.2.2.2 hf).mono fun e w' ⟨p, cv, he, ha, hp, hg, hbl⟩ => ⟨p, cv, he, ⟨ha, Nat.le_trans hb hp, by simp [Value.ownBlock], Nat.le_trans hb hbl.size⟩, hp, hg, hbl⟩
theorem MAt.other {w w' : World} {p : Nat} {m : Mac} {cv sv : Value} {C : Is} {S : List Nat} (h : MAt w p m cv sv C) (ht : Turned S w w') (hd : ∀ g ∈ p :: (sv.ownBlock.toList ++ cv.ownBlock.toList), g ∉ S) : MAt w' p m cv sv C := by
  obtain ⟨V, L, h1, h2, h3⟩ := h
  refine ⟨V, L, ⟨ht.kept h1.obj (hd p List.mem_cons_self), h1.v64, h1.vars, h1.vok, h1.lok, h1.row.kept (fun g o hg hb => ht.kept hb (hd g (List.mem_cons_of_mem _ (List.mem_append_left _ (by rw [hg]; simp))))), h1.few, h1.ins.kept (fun g o hg hb => ht.kept hb (hd g (List.mem_cons_of_mem _ (List.mem_append_right _ (by rw [hg]; simp))))), h1.code, h1.iok⟩, h2, h3⟩
theorem MAt.lt {w : World} {p : Nat} {m : Mac} {cv sv : Value} {C : Is} (h : MAt w p m cv sv C) : ∀ g ∈ p :: (sv.ownBlock.toList ++ cv.ownBlock.toList), g < w.heap.size := by
  obtain ⟨V, L, h1, -, -⟩ := h
  intro g hg
  rcases List.mem_cons.1 hg with e | e
  · rw [e]; exact blk_lt h1.obj
  · rcases List.mem_append.1 e with e | e
    · exact (h1.row.own_lt g e).2
    · exact (h1.ne_ins g e).1
/-- Two machines, apart. -/
structure Two (b : Nat) (w : World) (pa pb : Nat) (ma mb : Mac) (ca cb sa sb : Value) (C : Is) : Prop where
  a : MO b w pa ma ca sa C
  b' : MO b w pb mb cb sb C
  ab : ∀ g ∈ pb :: (sb.ownBlock.toList ++ cb.ownBlock.toList), g ∉ pa :: sa.ownBlock.toList
  ba : ∀ g ∈ pa :: (sa.ownBlock.toList ++ ca.ownBlock.toList), g ∉ pb :: sb.ownBlock.toList
theorem Two.swap {b : Nat} {w : World} {pa pb : Nat} {ma mb : Mac} {ca cb sa sb : Value} {C : Is} (h : Two b w pa pb ma mb ca cb sa sb C) : Two b w pb pa mb ma cb ca sb sa C := ⟨h.b', h.a, h.ba, h.ab⟩
theorem Two.below {b : Nat} {w w' : World} {pa pb : Nat} {ma mb : Mac} {ca cb sa sb : Value} {C : Is} (h : Two b w pa pb ma mb ca cb sa sb C) (hb : Below w.heap.size w w') : Two b w' pa pb ma mb ca cb sa sb C := ⟨h.a.below hb, h.b'.below hb, h.ab, h.ba⟩
theorem Two.step {b : Nat} {w w' : World} {pa pb : Nat} {ma mb ma' : Mac} {ca cb sa sb sa' : Value} {C : Is} (h : Two b w pa pb ma mb ca cb sa sb C) (ha : MO b w' pa ma' ca sa' C) (hn : vmm.Next pa sa w sa' w') : Two b w' pa pb ma' mb ca cb sa' sb C := by
  have hlb := MAt.lt h.b'.at'
  refine ⟨ha, ⟨MAt.other h.b'.at' hn.1 h.ab, h.b'.hp, h.b'.hs, ha.hw⟩, fun g hg hm => ?_, fun g hg hm => ?_⟩
  · rcases List.mem_cons.1 hm with e | e
    · exact h.ab g hg (by rw [e]; exact List.mem_cons_self)
    · rcases hn.2 g e with e2 | e2
      · exact h.ab g hg (List.mem_cons_of_mem _ e2)
      · have := hlb g hg; omega
  · have hlt : g < w.heap.size := hlb g (by
      rcases List.mem_cons.1 hm with e | e
      · rw [e]; exact List.mem_cons_self
      · exact List.mem_cons_of_mem _ (List.mem_append_left _ e))
    rcases List.mem_cons.1 hg with e | e
    · exact h.ba g (by rw [e]; exact List.mem_cons_self) hm
    · rcases List.mem_append.1 e with e | e
      · rcases hn.2 g e with e2 | e2
        · exact h.ba g (List.mem_cons_of_mem _ (List.mem_append_left _ e2)) hm
        · omega
      · exact h.ba g (List.mem_cons_of_mem _ (List.mem_append_right _ e)) hm
theorem run_t {b pa pb : Nat} {ma mb : Mac} {ca cb sa sb : Value} {C : Is} (n : Nat) (w : World) (h : Two b w pa pb ma mb ca cb sa sb C) (hn : ma.fuel < n) :
    Calls Tryz.prog 15 #[.pointer (some ⟨pa, 0, none⟩)] w fun e w' => e = .returned (.tuple #[.int .i64 (runM n ma).state, cA (runM n ma).call]) ∧ (∃ sa', Two b w' pa pb (runM n ma) mb ca cb sa' sb C ∧ vmm.Next pa sa w sa' w') ∧ Below b w w' :=
  (run_o b pa ma ca sa C n w h.a hn).mono fun e w' ⟨he, ⟨sa', ha, hn⟩, hb⟩ => ⟨he, ⟨sa', h.step ha hn, hn⟩, hb⟩
theorem give_t {b pa pb : Nat} {ma mb : Mac} {ca cb sa sb : Value} {C : Is} (i : Nat) (w : World) (h : Two b w pa pb ma mb ca cb sa sb C) (hst : ma.state = 1) (hi : i ≤ 1000000) :
    Calls Tryz.prog 18 #[.pointer (some ⟨pa, 0, none⟩), ansV i] w fun e w' => e = .returned (.int .i64 0) ∧ (∃ sa', Two b w' pa pb (giveM ma i) mb ca cb sa' sb C) ∧ Below b w w' :=
  (give_o b pa ma ca sa C i w h.a hst hi).mono fun e w' ⟨he, ⟨sa', ha, hn⟩, hb⟩ => ⟨he, ⟨sa', h.step ha hn⟩, hb⟩
theorem c8 {w : World} {b : Nat} {c : Cal} (h : w.heap[b]? = some (cO c)) : w.cell? ⟨b, 0, none⟩ = some (.int .i64 c.op) ∧ w.cell? ⟨b, 1, none⟩ = some (.string ⟨c.path.toArray⟩) ∧ w.cell? ⟨b, 2, none⟩ = some (.string ⟨c.path2.toArray⟩) ∧ w.cell? ⟨b, 3, none⟩ = some (.int .i64 c.fd) ∧ w.cell? ⟨b, 4, none⟩ = some (.int .i64 c.off) ∧ w.cell? ⟨b, 5, none⟩ = some (.int .i64 c.num) ∧ w.cell? ⟨b, 6, none⟩ = some (.int .i64 c.mode) ∧ w.cell? ⟨b, 7, none⟩ = some (.string ⟨c.data.toArray⟩) :=
  ⟨by rw [blk_cell h]; rfl, by rw [blk_cell h]; rfl, by rw [blk_cell h]; rfl, by rw [blk_cell h]; rfl, by rw [blk_cell h]; rfl, by rw [blk_cell h]; rfl, by rw [blk_cell h]; rfl, by rw [blk_cell h]; rfl⟩
/-- Where the law stands. -/
structure FI (k i : Nat) (d : Int) (w0 : World) (pa pb : Nat) (m : Mac) (ca cb sa sb : Value) (C : Is) (w : World) : Prop where
  two : Two w0.heap.size w pa pb m (addF m d) ca cb sa sb C
  nof : NoF m
  sum : m.ran + m.fuel = k
  many : (i : Int) ≤ m.ran
  st : m.state = 0 ∨ m.state = 3
  bel : Below w0.heap.size w0 w
theorem FI.fit {k i : Nat} {d : Int} {w0 w : World} {pa pb : Nat} {m : Mac} {ca cb sa sb : Value} {C : Is} (h : FI k i d w0 pa pb m ca cb sa sb C w) : Fit m := by
  obtain ⟨V, L, -, -, h3⟩ := h.two.a.at'
  exact h3
set_option maxHeartbeats 4000000 in
theorem fuel_any (s : ByteArray) (z1 z2 : Int) (w : World) (hs : s.size ≤ 9223372036854775807) : Calls Tryz.prog 3 #[.string s, .int .i64 z1, .int .i64 z2] w fun e w' => e = .returned (.bool true) ∧ Below w.heap.size w w' := by
  have HAW := Lib.hid (fun W => awake_any W)
  have HCO := Lib.hid (fun W => Code_any s W hs)
  obtain ⟨k, hk, hke⟩ := modU z1 500 (by decide) (by decide)
  obtain ⟨d, hd, hde⟩ := modU z2 500 (by decide) (by decide)
  have hk1 : wrap64 ((IntKind.u64.wrap z1).tmod 500) = (k : Int) := hke
  have hd1 : wrap64 ((IntKind.u64.wrap z2).tmod 500) = (d : Int) := hde
  have hkd : wrap64 ((k : Int) + (d : Int)) = ((k + d : Nat) : Int) := by rw [IntWalk.wrap64_in _ (by omega)]; omega
  clear hke hde
  go_enter Tryz.func3, Tryz.ntmps3
  go_upto_region 5 with (go_at_call 11; refine (HAW.out _).mono ?_; rintro e w2 ⟨rfl, hb⟩; have HB2 := Lib.hid hb; clear hb)
  have HNE := Lib.hid (fun v w0 W h hb => new_g w.heap.size v s.data.toList k w0 W h (by omega) hb)
  have HNF := Lib.hid (fun v w0 W h hb => new_g w.heap.size v s.data.toList (k + d) w0 W h (by omega) hb)
  have ekd : (((k + d : Nat) : Int)) = (k : Int) + (d : Int) := by omega
  rw [ekd] at HNF
  clear ekd hkd
  have eN : newM ((codI (codeS s.data.toList)).map (·.1)) ((k : Int) + (d : Int)) = addF (newM ((codI (codeS s.data.toList)).map (·.1)) k) d := rfl
  rw [eN] at HNF
  clear eN
  have HF0 : Hid ((newM ((codI (codeS s.data.toList)).map (·.1)) k).ran = 0 ∧ (newM ((codI (codeS s.data.toList)).map (·.1)) k).fuel = k ∧ (newM ((codI (codeS s.data.toList)).map (·.1)) k).state = 0) := ⟨rfl, rfl, rfl⟩
  generalize newM ((codI (codeS s.data.toList)).map (·.1)) k = m0 at *
  generalize codI (codeS s.data.toList) = C at *
  generalize codeS s.data.toList = R at *
  go_upto_region 6 with (first | (go_at_call 13; refine (HCO.out _).mono ?_; rintro e w3 ⟨v3, rfl, hcp⟩; have HCP := Lib.hid hcp; have HB3 := Lib.hid (HB2.out.trans (hcp.1.mono HB2.out.size)); clear hcp) | (go_at_call 12; refine (HNE.out _ _ _ HCP.out HB3.out.size).mono ?_; rintro e w4 ⟨pa, ca, rfl, hmo, hpa, hca, hb⟩; have HA4 := Lib.hid hmo; have HB4 := Lib.hid (HB3.out.trans (hb.mono HB3.out.size)); clear hmo hb HCP))
  go_upto_region 7 with (first | (go_at_call 13; refine (HCO.out _).mono ?_; rintro e w5 ⟨v5, rfl, hcp⟩; have HCP := Lib.hid hcp; have HB5 := Lib.hid (HB4.out.trans (hcp.1.mono HB4.out.size)); have HA5 := Lib.hid (HA4.out.below hcp.1); clear hcp) | (go_at_call 12; refine (HNF.out _ _ _ HCP.out HB5.out.size).mono ?_; rintro e w6 ⟨pb, cb, rfl, hmo, hpb, hcb, hb⟩; have HM6 := Lib.hid hmo; have HB6 := Lib.hid (HB5.out.trans (hb.mono HB5.out.size)); have HA6 := Lib.hid (HA5.out.below hb); clear hmo hb HCP))
  have HT0 : Hid (Two w.heap.size w6 pa pb m0 (addF m0 d) ca cb (.slice none 0 0) (.slice none 0 0) C) := by
    have hla := MAt.lt HA5.out.at'
    refine ⟨HA6.out, HM6.out, fun g hg hm => ?_, fun g hg hm => ?_⟩
    · have hm2 : g = pa := by simpa [Value.ownBlock] using hm
      have h1 := hla pa List.mem_cons_self
      rcases List.mem_cons.1 hg with e | e
      · omega
      · rcases List.mem_append.1 e with e | e
        · simp [Value.ownBlock] at e
        · have := hcb g e; omega
    · have hm2 : g = pb := by simpa [Value.ownBlock] using hm
      have := hla g hg
      omega
  clear HA4 HA5 HA6 HM6 HNE HNF HCO HAW hpa hca hpb hcb
  go_wp2_with (go_at_call 14; refine (Num_any _ _).mono ?_; rintro e w' ⟨rfl, rfl⟩)
  go_loopg [13] 600 (fun kk v13 wr => ∃ (i : Nat) (m : Mac) (sa sb : Value), v13 = .int .i64 i ∧ i + kk = 600 ∧ Hid (FI k i d w pa pb m ca cb sa sb C wr))
  case atStart =>
    obtain ⟨f1, f2, f3⟩ := HF0.out
    exact ⟨0, m0, _, _, rfl, by omega, HT0.out, fun h => absurd (f3.symm.trans h) (by decide), by omega, by omega, .inl f3, HB6.out⟩
  case round =>
    obtain ⟨i, m, sa, sb, rfl, hik, HR⟩ := hrel
    clear HT0 HF0 HB2 HB3 HB4 HB5 HB6
    have hfit := HR.out.fit
    have hfu := hfit.fuel
    have hsum := HR.out.sum
    have hmany := HR.out.many
    have hi5 : i < 500 := by omega
    cases gk with
    | zero => omega
    | succ gk =>
    have hI : (i : Int) < 600 := by omega
    have hlock := lock 501 m d 1001 hfit (by omega) (by omega) (by omega) (by omega) (by omega) HR.out.nof
    have HFR := Lib.hid (hfit.run 501)
    have hasks : (runM 501 m).state = 1 → m.ran + 1 ≤ (runM 501 m).ran := fun h => by
      rcases HR.out.st with e | e
      · exact run_asks hfit e h
      · rw [run_stop (by rw [e]; decide)] at h
        rw [e] at h
        cases h
    have HRA := Lib.hid (run_t 501 wr HR.out.two (by omega))
    have HRB := Lib.hid (fun W sa' (h : Two w.heap.size W pa pb (runM 501 m) (addF m d) ca cb sa' sb C) => run_t 1001 W h.swap (by show m.fuel + d < 1001; omega))
    have HASK := Lib.hid hasks
    generalize hxa : runM 501 m = xa at *
    generalize hxb : runM 1001 (addF m d) = xb at *
    clear hasks hxa hxb hfit
    go_upto_region 13 with (go_at_call 15; refine (HRA.out).mono ?_; rintro e w7 ⟨rfl, ⟨sa7, ht, -⟩, hb⟩; have HT7 := Lib.hid ht; have HB7 := Lib.hid (HR.out.bel.trans hb); clear ht hb)
    have HA8 := Lib.hid (Apt.start HT7.out.b' (cO xa.call))
    have HT8 := Lib.hid (HT7.out.below ((Below.refl _ _).alloc (Nat.le_refl _) (cO xa.call)))
    have HB8 : Hid (Below w.heap.size w (w7.alloc (cO xa.call))) := HB7.out.alloc HB7.out.size _
    change Code.wp _ _ _ _ (w7.alloc (cO xa.call))
    generalize w7.alloc (cO xa.call) = w8 at *
    have HRB8 := Lib.hid (HRB.out w8 sa7 HT8.out)
    clear HRB HRA HT7 HB7
    go_upto_region 14 with (go_at_call 15; refine (HRB8.out).mono ?_; rintro e w9 ⟨rfl, ⟨sb9, ht, hn⟩, hb⟩; have HT9 := Lib.hid ht.swap; have HB9 := Lib.hid (HB8.out.trans hb); have HA9 := Lib.hid (HA8.out.step hn); clear ht hb hn)
    have HTA := Lib.hid (HT9.out.below ((Below.refl _ _).alloc (Nat.le_refl _) (cO xb.call)))
    have HBA : Hid (Below w.heap.size w (w9.alloc (cO xb.call))) := HB9.out.alloc HB9.out.size _
    have HCA := Lib.hid (blk_old HA9.out.obj (cO xb.call))
    have HDA := Lib.hid (blk_new w9 (cO xb.call))
    change Code.wp _ _ _ _ (w9.alloc (cO xb.call))
    generalize w9.alloc (cO xb.call) = wa at *
    clear HRB8 HA8 HT8 HB8 HA9 HT9 HB9
    have HER := Lib.hid (fun W sa' sb' (h : Two w.heap.size W pa pb xa xb ca cb sa' sb' C) => Error_any pa xa ca sa' C W h.a.at')
    have HRN := Lib.hid (fun W sa' sb' (h : Two w.heap.size W pa pb xa xb ca cb sa' sb' C) => Ran_any pa xa ca sa' C W h.a.at')
    have HRM := Lib.hid (fun W sa' sb' (h : Two w.heap.size W pa pb xa xb ca cb sa' sb' C) => Ran_any pb xb cb sb' C W h.b'.at')
    rcases hlock with ⟨hl1, hl2, hl3⟩ | ⟨hl1, hl2, hl3, hl4⟩
    · have e1 : xb.state = xa.state := by rw [hl1]; rfl
      have e2 : xb.call = xa.call := by rw [hl1]; rfl
      have e3 : xb.ran = xa.ran := by rw [hl1]; rfl
      have HL1 := Lib.hid (fun _ : Unit => hl1)
      have HL2 := Lib.hid hl2
      have HL3 := Lib.hid hl3
      rw [e1]
      rw [e2] at HDA
      rw [e3] at HRM
      clear hl1 hl2 hl3 e1 e2 e3
      by_cases hs3 : xa.state = 3
      · have hne := HL2.out hs3
        go_wp2_with (first | (go_at_call 14; refine (Num_any _ _).mono ?_; rintro e w' ⟨rfl, rfl⟩) | (go_at_call 16; refine (HER.out _ _ _ HTA.out).mono ?_; rintro e wb ⟨rfl, hb⟩; have HBB := Lib.hid (HBA.out.trans (hb.mono HBA.out.size)); have HTB := Lib.hid (HTA.out.below hb); obtain ⟨z0, z1, z2, z3, z4, z5, z6, z7⟩ := c8 (blk_below HCA.out hb); obtain ⟨k0, k1, k2, k3, k4, k5, k6, k7⟩ := c8 (blk_below HDA.out hb); clear hb) | (go_at_call 17; first | ((with_reducible refine (HRN.out _ _ _ HTB.out).mono ?_); rintro e w' ⟨rfl, rfl⟩) | ((with_reducible refine (HRM.out _ _ _ HTB.out).mono ?_); rintro e w' ⟨rfl, rfl⟩)))
        go_ret
        exact ⟨rfl, HBB.out⟩
      · have HTB := HTA
        obtain ⟨z0, z1, z2, z3, z4, z5, z6, z7⟩ := c8 HCA.out
        obtain ⟨k0, k1, k2, k3, k4, k5, k6, k7⟩ := c8 HDA.out
        by_cases ha : xa.state = 1
        · have hb1 : xb.state = 1 := by rw [HL1.out ()]; exact ha
          have hg2 : giveM xb i = addF (giveM xa i) d := by rw [HL1.out ()]; exact give_add xa d i
          have HG1 := Lib.hid (give_t i wa HTA.out ha (by omega))
          have HG2 := Lib.hid (fun W sa' (h : Two w.heap.size W pa pb (giveM xa i) xb ca cb sa' sb9 C) => give_t i W h.swap hb1 (by omega))
          rw [hg2] at HG2
          have hany : (i : Int) + 1 ≤ xa.ran := by have := HASK.out ha; omega
          obtain ⟨g1, g2, g3, g4⟩ := give_nof xa i
          have HFI : Hid (∀ W sa' sb', Two w.heap.size W pa pb (giveM xa i) (addF (giveM xa i) d) ca cb sa' sb' C → Below w.heap.size w W → FI k (i + 1) d w pa pb (giveM xa i) ca cb sa' sb' C W) := fun W sa' sb' h1 h2 => ⟨h1, g1, by rw [g2, g3, HL3.out]; exact hsum, by rw [g2]; omega, g4, h2⟩
          clear hg2 hb1 hany g1 g2 g3 g4
          generalize giveM xa i = mg at *
          go_wp2_with (first | (go_at_call 14; refine (Num_any _ _).mono ?_; rintro e w' ⟨rfl, rfl⟩) | (go_at_call 17; first | ((with_reducible refine (HRN.out _ _ _ HTB.out).mono ?_); rintro e w' ⟨rfl, rfl⟩) | ((with_reducible refine (HRM.out _ _ _ HTB.out).mono ?_); rintro e w' ⟨rfl, rfl⟩)) | (go_at_call 18; first | ((with_reducible refine (HG1.out).mono ?_); rintro e wc ⟨rfl, ⟨sac, ht⟩, hb⟩; have HTC := Lib.hid ht; have HBC := Lib.hid (HBA.out.trans hb); clear ht hb) | ((with_reducible refine (HG2.out _ _ HTC.out).mono ?_); rintro e wd ⟨rfl, ⟨sbd, ht⟩, hb⟩; have HTD := Lib.hid ht.swap; have HBD := Lib.hid (HBC.out.trans hb); clear ht hb)))
          go_roundg gk
          case rel => exact ⟨i + 1, mg, _, _, by go_num, by omega, HFI.out _ _ _ HTD.out HBD.out⟩
          case measure => omega
        · go_wp2_with (first | (go_at_call 14; refine (Num_any _ _).mono ?_; rintro e w' ⟨rfl, rfl⟩) | (go_at_call 17; first | ((with_reducible refine (HRN.out _ _ _ HTB.out).mono ?_); rintro e w' ⟨rfl, rfl⟩) | ((with_reducible refine (HRM.out _ _ _ HTB.out).mono ?_); rintro e w' ⟨rfl, rfl⟩)))
          go_ret
          exact ⟨rfl, HBA.out⟩
    · have hg : decide (xb.ran ≥ (k : Int)) = true := decide_eq_true (by omega)
      have hrk : xa.ran = k := by omega
      rw [hl2] at HER
      rw [hrk] at HRN
      have hs3 := hl1
      clear hl1 hl2 hl3 hl4 hrk
      go_wp2_with (first | (go_at_call 14; refine (Num_any _ _).mono ?_; rintro e w' ⟨rfl, rfl⟩) | (go_at_call 16; refine (HER.out _ _ _ HTA.out).mono ?_; rintro e wb ⟨rfl, hb⟩; have HBB := Lib.hid (HBA.out.trans (hb.mono HBA.out.size)); have HTB := Lib.hid (HTA.out.below hb); clear hb) | (go_at_call 17; first | ((with_reducible refine (HRN.out _ _ _ HTB.out).mono ?_); rintro e w' ⟨rfl, rfl⟩) | ((with_reducible refine (HRM.out _ _ _ HTB.out).mono ?_); rintro e w' ⟨rfl, rfl⟩)))
      go_ret
      exact ⟨rfl, HBB.out⟩
end Go.Proofs.YtmfpmandkhiknaaGreatDoor.mkr
