/-
  Proved: with less fuel a machine does the beginning of what it does with more (plain). Conditions: as each theorem says. No program is in sight.
  Proved: what Vars returns (again, so that a pack without it can be built upon). Conditions: as the theorem says.
  Proved: Vars by cell: each variable's three cells. Conditions: as each theorem says.
  Proved: what the machine of VmTexts' six instructions comes to (plain, by the kernel). Conditions: as each theorem says. No program is in sight.
  Proved: VmTexts says true. Conditions: as each theorem says.
-/
import Derived.Test.YtmfpmandkhiknaaGreatDoorPw41
set_option linter.unusedVariables false
set_option linter.unusedSimpArgs false
namespace Go.Proofs.YtmfpmandkhiknaaGreatDoor.vmm
open Go Go.RowKit Ieee
open flt
set_option linter.unusedVariables false

/-- The same machine with more fuel. -/
def addF (m : Mac) (d : Int) : Mac := { m with fuel := m.fuel + d }
theorem push_add (m : Mac) (d : Int) (v : Val) : pushM (addF m d) v = match pushM m v with
    | .ok m2 => .ok (addF m2 d)
    | .error e => .error e := by
  unfold pushM
  show (if _ then _ else if 64 ≤ m.stack.length then _ else _) = _
  split
  · rfl
  · split <;> rfl
theorem pop_add (m : Mac) (d : Int) (n : Nat) : popM (addF m d) n = match popM m n with
    | .ok (vs, m2) => .ok (vs, addF m2 d)
    | .error e => .error e := by
  unfold popM
  show (if m.stack.length < n then _ else _) = _
  split <;> rfl
theorem ask_add (m : Mac) (d : Int) (g : List UInt8) (vs : List Val) : askM (addF m d) g vs = match askM m g vs with
    | .ok m2 => .ok (addF m2 d)
    | .error e => .error e := by
  unfold askM
  split
  · cases pureM g (vs.headD zeroV) with
    | error e => rfl
    | ok v => exact push_add m d v
  · cases argsM { noCal with op := (formM g).1 } vs (formM g).2 <;> rfl
theorem do_add (m : Mac) (d : Int) (i : Ins) : doM (addF m d) i = match doM m i with
    | .ok m2 => .ok (addF m2 d)
    | .error e => .error e := by
  unfold doM
  by_cases e0 : i.op = 0
  · rw [if_pos e0, if_pos e0]; rfl
  rw [if_neg e0, if_neg e0]
  by_cases e1 : i.op = 1
  · rw [if_pos e1, if_pos e1]; exact push_add _ _ _
  rw [if_neg e1, if_neg e1]
  by_cases e2 : i.op = 2
  · rw [if_pos e2, if_pos e2]; exact push_add _ _ _
  rw [if_neg e2, if_neg e2]
  by_cases e3 : i.op = 3
  · rw [if_pos e3, if_pos e3]; exact push_add _ _ _
  rw [if_neg e3, if_neg e3]
  by_cases e4 : i.op = 4
  · rw [if_pos e4, if_pos e4, pop_add]
    cases popM m 1 with
    | error e => rfl
    | ok x => rfl
  rw [if_neg e4, if_neg e4]
  by_cases e18 : i.op = 18
  · rw [if_pos e18, if_pos e18, pop_add]
    cases popM m 1 with
    | error e => rfl
    | ok x => rfl
  rw [if_neg e18, if_neg e18]
  by_cases e15 : i.op = 15
  · rw [if_pos e15, if_pos e15]; rfl
  rw [if_neg e15, if_neg e15]
  by_cases e16 : i.op = 16
  · rw [if_pos e16, if_pos e16, pop_add]
    cases popM m 1 with
    | error e => rfl
    | ok x =>
      obtain ⟨vs, m2⟩ := x
      simp only
      split <;> rfl
  rw [if_neg e16, if_neg e16]
  by_cases e5 : i.op = 5
  · rw [if_pos e5, if_pos e5, pop_add]
    cases popM m 1 with
    | error e => rfl
    | ok x =>
      obtain ⟨vs, m2⟩ := x
      simp only
      split
      · rfl
      · exact push_add _ _ _
  rw [if_neg e5, if_neg e5]
  by_cases e6 : i.op = 6
  · rw [if_pos e6, if_pos e6, pop_add]
    cases popM m 1 with
    | error e => rfl
    | ok x => exact push_add _ _ _
  rw [if_neg e6, if_neg e6]
  by_cases e17 : i.op = 17
  · rw [if_pos e17, if_pos e17, pop_add]
    cases popM m i.arg.toNat with
    | error e => rfl
    | ok x => exact ask_add _ _ _ _
  rw [if_neg e17, if_neg e17]
  by_cases e19 : i.op = 19
  · rw [if_pos e19, if_pos e19, pop_add]
    cases popM m 1 with
    | error e => rfl
    | ok x => rfl
  rw [if_neg e19, if_neg e19, pop_add]
  cases popM m 2 with
  | error e => rfl
  | ok x =>
    obtain ⟨vs, m2⟩ := x
    simp only
    cases binaryM i.op (vs.headD zeroV) (vs.getD 1 zeroV) with
    | error e => rfl
    | ok v => exact push_add _ _ _
/-- Where fuel is left, a round does the same. -/
theorem round_add (m : Mac) (d : Int) (h : m.fuel ≠ 0 ∨ (m.code.length : Int) ≤ m.pc) (h2 : m.fuel + d ≠ 0 ∨ (m.code.length : Int) ≤ m.pc) : roundM (addF m d) = addF (roundM m) d := by
  rw [round_eq, round_eq]
  show (if (m.code.length : Int) ≤ m.pc then _ else if m.fuel + d = 0 then _ else match doM (nextM (addF m d)) (atM m) with | .ok m2 => m2 | .error e => failM (nextM (addF m d)) e) = _
  by_cases hp : (m.code.length : Int) ≤ m.pc
  · rw [if_pos hp, if_pos hp]; rfl
  rw [if_neg hp, if_neg hp]
  rcases h with h | h
  · rcases h2 with h2 | h2
    · rw [if_neg h2, if_neg h]
      have e : nextM (addF m d) = addF (nextM m) d := by
        unfold nextM addF
        simp only
        congr 1
        omega
      rw [e, do_add]
      cases doM (nextM m) (atM m) with
      | ok m2 => rfl
      | error e => rfl
    · exact absurd h2 hp
  · exact absurd h hp
/-! what an instruction throws; what it leaves of the state -/
theorem push_err {m : Mac} {v : Val} {e : Bad} (h : pushM m v = .error e) : e.1 ≠ 2204 := by
  unfold pushM at h
  split at h
  · cases h; decide
  split at h
  · cases h; decide
  · cases h
theorem pop_err {m : Mac} {n : Nat} {e : Bad} (h : popM m n = .error e) : e.1 ≠ 2204 := by
  unfold popM at h
  split at h
  · cases h; decide
  · cases h
theorem pure_err {g : List UInt8} {v : Val} {e : Bad} (h : pureM g v = .error e) : e.1 ≠ 2204 := by
  unfold pureM at h
  split at h
  · split at h <;> cases h
  split at h
  · cases h
  split at h
  · split at h
    · cases h
    · cases h; decide
  · cases h
theorem args_err : ∀ (vs : List Val) (rs : List UInt8) (c : Cal) {e : Bad}, argsM c vs rs = .error e → e.1 ≠ 2204
  | [], rs, c, e, h => by rw [argsM] at h; cases h
  | v :: vs, rs, c, e, h => by
    rw [argsM] at h
    split at h
    · cases h; decide
    · exact args_err vs _ _ h
theorem binary_err {op : Int} {a b : Val} {e : Bad} (h : binaryM op a b = .error e) : e.1 ≠ 2204 := by
  unfold binaryM at h
  split at h
  · cases h
  split at h
  · cases h
  split at h
  · split at h
    · cases h; decide
    · cases h
  split at h
  · cases h; decide
  · cases h
/-- An outcome: no fault of fuel, no failed state. -/
def Fine (s : Int) (x : Except Bad Mac) : Prop := match x with
  | .ok m2 => m2.state = s ∨ m2.state = 1 ∨ m2.state = 2
  | .error e => e.1 ≠ 2204
theorem fine_push (m : Mac) (v : Val) : Fine m.state (pushM m v) := by
  cases h : pushM m v with
  | error e => exact push_err h
  | ok m2 => obtain ⟨rfl, -⟩ := push_keep h; exact .inl rfl
theorem fine_ask (m : Mac) (g : List UInt8) (vs : List Val) : Fine m.state (askM m g vs) := by
  unfold askM
  split
  · cases h : pureM g (vs.headD zeroV) with
    | error e => exact pure_err h
    | ok v => exact fine_push m v
  · cases h : argsM { noCal with op := (formM g).1 } vs (formM g).2 with
    | error e => exact args_err _ _ _ h
    | ok c => exact .inr (.inl rfl)
theorem fine_pop {m : Mac} {n : Nat} (f : List Val → Mac → Except Bad Mac) (hf : ∀ vs m2, m2.state = m.state → Fine m.state (f vs m2)) : Fine m.state (match popM m n with
    | .error e => .error e
    | .ok (vs, m2) => f vs m2) := by
  cases h : popM m n with
  | error e => exact pop_err h
  | ok x =>
    obtain ⟨vs, m2⟩ := x
    obtain ⟨s, rfl, -, -⟩ := pop_keep h
    exact hf vs _ rfl
theorem fine_pushS {m m2 : Mac} (h : m2.state = m.state) (v : Val) : Fine m.state (pushM m2 v) := h ▸ fine_push m2 v
theorem do_fine (m : Mac) (i : Ins) : Fine m.state (doM m i) := by
  unfold doM
  by_cases e0 : i.op = 0
  · rw [if_pos e0]; exact .inr (.inr rfl)
  rw [if_neg e0]
  by_cases e1 : i.op = 1
  · rw [if_pos e1]; exact fine_push _ _
  rw [if_neg e1]
  by_cases e2 : i.op = 2
  · rw [if_pos e2]; exact fine_push _ _
  rw [if_neg e2]
  by_cases e3 : i.op = 3
  · rw [if_pos e3]; exact fine_push _ _
  rw [if_neg e3]
  by_cases e4 : i.op = 4
  · rw [if_pos e4]; exact fine_pop (fun vs m2 => .ok { m2 with vars := m2.vars.set i.arg.toNat (vs.headD zeroV) }) (fun vs m2 h => .inl h)
  rw [if_neg e4]
  by_cases e18 : i.op = 18
  · rw [if_pos e18]; exact fine_pop (fun vs m2 => .ok m2) (fun vs m2 h => .inl h)
  rw [if_neg e18]
  by_cases e15 : i.op = 15
  · rw [if_pos e15]; exact .inl rfl
  rw [if_neg e15]
  by_cases e16 : i.op = 16
  · rw [if_pos e16]
    exact fine_pop (fun vs m2 => .ok (if truth (vs.headD zeroV) then m2 else { m2 with pc := i.arg })) (fun vs m2 h => by
      show _ ∨ _
      refine .inl ?_
      split <;> exact h)
  rw [if_neg e16]
  by_cases e5 : i.op = 5
  · rw [if_pos e5]
    exact fine_pop (fun vs m2 => if (vs.headD zeroV).isT then .error (2201, []) else pushM m2 (numV (cf (ng (vs.headD zeroV).num)))) (fun vs m2 h => by
      show Fine m.state (if _ then _ else _)
      split
      · show (2201 : Int) ≠ 2204; decide
      · exact fine_pushS h _)
  rw [if_neg e5]
  by_cases e6 : i.op = 6
  · rw [if_pos e6]; exact fine_pop (fun vs m2 => pushM m2 (flagV (!truth (vs.headD zeroV)))) (fun vs m2 h => fine_pushS h _)
  rw [if_neg e6]
  by_cases e17 : i.op = 17
  · rw [if_pos e17]; exact fine_pop (fun vs m2 => askM m2 i.text vs) (fun vs m2 h => h ▸ fine_ask m2 i.text vs)
  rw [if_neg e17]
  by_cases e19 : i.op = 19
  · rw [if_pos e19]; exact fine_pop (fun vs m2 => .error (2205, shown (vs.headD zeroV))) (fun vs m2 h => by show (2205 : Int) ≠ 2204; decide)
  rw [if_neg e19]
  exact fine_pop (fun vs m2 => match binaryM i.op (vs.headD zeroV) (vs.getD 1 zeroV) with
      | .error e => .error e
      | .ok v => pushM m2 v) (fun vs m2 h => by
    show Fine m.state (match binaryM i.op (vs.headD zeroV) (vs.getD 1 zeroV) with | .error e => .error e | .ok v => pushM m2 v)
    cases hb : binaryM i.op (vs.headD zeroV) (vs.getD 1 zeroV) with
    | error e => exact binary_err hb
    | ok v => exact fine_pushS h v)
/-- No fault of fuel. -/
def NoF (m : Mac) : Prop := m.state = 3 → m.errno ≠ 2204
theorem round_nof {m : Mac} (h : Fit m) (hs : m.state = 0) (hp : ¬ (m.code.length : Int) ≤ m.pc) (hf : m.fuel ≠ 0) : NoF (roundM m) ∧ (roundM m).fuel = m.fuel - 1 ∧ (roundM m).ran = m.ran + 1 := by
  rw [round_eq, if_neg hp, if_neg hf]
  have h1 := do_fine (nextM m) (atM m)
  cases hd : doM (nextM m) (atM m) with
  | ok m2 =>
    rw [hd] at h1
    have hk := do_keep hd
    refine ⟨fun (h3 : m2.state = 3) => ?_, hk.fuel, hk.ran⟩
    have e : (nextM m).state = 0 := hs
    rcases h1 with h4 | h4 | h4
    · rw [e] at h4; rw [h4] at h3; cases h3
    · rw [h4] at h3; cases h3
    · rw [h4] at h3; cases h3
  | error e =>
    rw [hd] at h1
    exact ⟨fun _ => h1, rfl, rfl⟩
theorem ran_mono (n : Nat) : ∀ m : Mac, Fit m → m.ran ≤ (runM n m).ran := by
  induction n with
  | zero => intro m _; exact Int.le_refl _
  | succ n ih =>
    intro m h
    rw [runM]
    split
    · rename_i hs
      refine Int.le_trans ?_ (ih _ h.round)
      by_cases hp : (m.code.length : Int) ≤ m.pc
      · rw [round_eq, if_pos hp]; exact Int.le_refl _
      by_cases hf : m.fuel = 0
      · rw [round_eq, if_neg hp, if_pos hf]; exact Int.le_refl _
      · rw [(round_nof h hs hp hf).2.2]; omega
    · exact Int.le_refl _
theorem Fit.add {m : Mac} (h : Fit m) {d : Int} (hd : 0 ≤ d) (hd2 : d ≤ 100000) (hs : m.ran + m.fuel ≤ 100000) : Fit (addF m d) :=
  ⟨h.pc0, h.pc1, h.few, by have := h.fuel; show 0 ≤ m.fuel + d; omega, h.ran, by show m.ran + (m.fuel + d) ≤ _; omega, h.fair, h.v64, h.sh, h.shv⟩
/-- Both run: alike, or the one with less comes to its end of fuel. -/
theorem lock (n : Nat) : ∀ (m : Mac) (d : Int) (n2 : Nat), Fit m → 0 ≤ d → d ≤ 100000 → m.ran + m.fuel ≤ 100000 → m.fuel < n → m.fuel + d < n2 → NoF m →
    (runM n2 (addF m d) = addF (runM n m) d ∧ NoF (runM n m) ∧ (runM n m).ran + (runM n m).fuel = m.ran + m.fuel) ∨ ((runM n m).state = 3 ∧ (runM n m).errno = 2204 ∧ (runM n m).ran = m.ran + m.fuel ∧ m.ran + m.fuel ≤ (runM n2 (addF m d)).ran) := by
  induction n with
  | zero => intro m d n2 h _ _ _ h1; have := h.fuel; omega
  | succ n ih =>
    intro m d n2 h hd hd2 hsum h1 h2 hno
    by_cases hs : m.state = 0
    · cases n2 with
      | zero => have := h.fuel; omega
      | succ n2 =>
      have hs2 : (addF m d).state = 0 := hs
      have r1 : runM (n + 1) m = runM n (roundM m) := by rw [runM, if_pos hs]
      have r2 : runM (n2 + 1) (addF m d) = runM n2 (roundM (addF m d)) := by rw [runM, if_pos hs2]
      rw [r1, r2]
      have hfu := h.fuel
      by_cases hp : (m.code.length : Int) ≤ m.pc
      · rw [round_add m d (.inr hp) (.inr hp)]
        have e : (roundM m) = { m with state := 2 } := by rw [round_eq, if_pos hp]
        have h3 : (roundM m).state ≠ 0 := by rw [e]; simp
        have h4 : (addF (roundM m) d).state ≠ 0 := h3
        rw [run_stop h3, run_stop h4]
        refine .inl ⟨rfl, fun h5 => ?_, by rw [e]⟩
        rw [e] at h5
        simp at h5
      · by_cases hf : m.fuel = 0
        · have e : roundM m = failM m (2204, []) := by rw [round_eq, if_neg hp, if_pos hf]
          have h3 : (roundM m).state ≠ 0 := by rw [e]; simp [failM]
          rw [run_stop h3, e]
          have h5 := ran_mono (n2 + 1) (addF m d) (h.add hd hd2 hsum)
          rw [r2] at h5
          refine .inr ⟨rfl, rfl, ?_, ?_⟩
          · show m.ran = m.ran + m.fuel; omega
          · have e2 : (addF m d).ran = m.ran := rfl
            omega
        · obtain ⟨h3, h4, h5⟩ := round_nof h hs hp hf
          rw [round_add m d (.inl hf) (.inl (by omega))]
          have := ih (roundM m) d n2 h.round hd hd2 (by omega) (by omega) (by omega) h3
          rw [show (roundM m).ran + (roundM m).fuel = m.ran + m.fuel by omega] at this
          exact this
    · have hs2 : (addF m d).state ≠ 0 := hs
      rw [run_stop hs, run_stop hs2]
      exact .inl ⟨rfl, hno, rfl⟩
/-- A machine that asks has done something. -/
theorem run_asks {n : Nat} {m : Mac} (h : Fit m) (hs : m.state = 0) (h1 : (runM n m).state = 1) : m.ran + 1 ≤ (runM n m).ran := by
  cases n with
  | zero => rw [runM, hs] at h1; cases h1
  | succ n =>
    rw [runM, if_pos hs] at h1 ⊢
    by_cases hp : (m.code.length : Int) ≤ m.pc
    · have e : roundM m = { m with state := 2 } := by rw [round_eq, if_pos hp]
      rw [run_stop (by rw [e]; simp), e] at h1
      simp at h1
    by_cases hf : m.fuel = 0
    · have e : roundM m = failM m (2204, []) := by rw [round_eq, if_neg hp, if_pos hf]
      rw [run_stop (by rw [e]; simp [failM]), e] at h1
      simp [failM] at h1
    · have := ran_mono n _ h.round
      have := (round_nof h hs hp hf).2.2
      omega
/-! an answer -/
theorem give_add (m : Mac) (d : Int) (i : Nat) : giveM (addF m d) i = addF (giveM m i) d := by
  have e : giveM (addF m d) i = behindM (addF (restM m) d) (pushM (addF (restM m) d) (giveV m.asked i)) := rfl
  have e2 : giveM m i = behindM (restM m) (pushM (restM m) (giveV m.asked i)) := rfl
  rw [e, e2, push_add]
  cases pushM (restM m) (giveV m.asked i) <;> rfl
theorem give_nof (m : Mac) (i : Nat) : NoF (giveM m i) ∧ (giveM m i).ran = m.ran ∧ (giveM m i).fuel = m.fuel ∧ ((giveM m i).state = 0 ∨ (giveM m i).state = 3) := by
  have e2 : giveM m i = behindM (restM m) (pushM (restM m) (giveV m.asked i)) := rfl
  rw [e2]
  cases h : pushM (restM m) (giveV m.asked i) with
  | ok m2 =>
    obtain ⟨rfl, -⟩ := push_keep h
    exact ⟨fun (h3 : (0 : Int) = 3) => (nomatch h3), rfl, rfl, .inl rfl⟩
  | error e => exact ⟨fun _ => push_err h, rfl, rfl, .inr rfl⟩
theorem Fit.give {m : Mac} (h : Fit m) (i : Nat) : Fit (giveM m i) := by
  have e2 : giveM m i = behindM (restM m) (pushM (restM m) (giveV m.asked i)) := rfl
  rw [e2]
  unfold behindM
  cases hp : pushM (restM m) (giveV m.asked i) with
  | ok m2 => exact h.rest.push hp
  | error e => exact h.rest.fail e
end Go.Proofs.YtmfpmandkhiknaaGreatDoor.vmm

namespace Go.Proofs.YtmfpmandkhiknaaGreatDoor.vmm
open Go Go.RowKit Ieee
open flt heap
open lex (run_store_float add0)
set_option linter.unusedVariables false
set_option linter.unusedSimpArgs false
set_option maxRecDepth 100000
attribute [local go_sem] run_store_float

theorem Vars_all (p : Nat) (m : Mac) (cv sv : Value) (C : Is) (w : World) (h : MAt w p m cv sv C) :
    Calls Tryz.prog 19 #[.pointer (some ⟨p, 0, none⟩)] w fun e w' => ∃ v V, e = .returned v ∧ VRow w' w.heap.size v V ∧ V.map (·.1) = m.vars ∧ VsOk V ∧ V.length = 64 ∧ Below w.heap.size w w' := by
  obtain ⟨V, L, h1, -, -⟩ := h
  have hl := vCs_len V
  rw [h1.v64] at hl
  have HC := Lib.hid (clone_any V p 5 64 w (fun j u hu => by
    have hj : j < 192 := by have := (List.getElem?_eq_some_iff.1 hu).1; omega
    rw [h1.cell, Nat.add_comm 5 j, row_var h1.v64 j hj]
    exact hu) (fun e => by have := h1.v64; rw [e] at this; cases this) (by rw [h1.v64]; decide))
  rw [h1.v64] at HC
  have HV := Lib.hid h1.vars
  have HO := Lib.hid h1.vok
  have H64 := Lib.hid h1.v64
  have hpl := blk_lt h1.obj
  clear h1 hl
  go_enter Tryz.func19, Tryz.ntmps19
  go_wp2_with (go_at_call 42; refine (HC.out).mono ?_; rintro e w5 ⟨v5, rfl, hr, hb⟩; have HR := Lib.hid hr; have HB := Lib.hid hb; clear hr hb)
  go_ret
  exact ⟨_, _, rfl, HR.out, HV.out, HO.out, H64.out, HB.out⟩
end Go.Proofs.YtmfpmandkhiknaaGreatDoor.vmm

namespace Go.Proofs.YtmfpmandkhiknaaGreatDoor.mkr
open Go Go.RowKit
open heap vmm
set_option linter.unusedVariables false

theorem vars_cells {W : World} {b : Nat} {v : Value} {V : Vs} (h : VRow W b v V) (hl : V.length = 64) : ∃ g c, v = .slice (some ⟨g, 0, none⟩) 64 c ∧ ∀ i x, V[i]? = some x → W.cell? ⟨g, i * 3, none⟩ = some (.bool x.1.isT) ∧ W.cell? ⟨g, i * 3 + 1, none⟩ = some (.string ⟨x.1.text.toArray⟩) ∧ W.cell? ⟨g, i * 3 + 2, none⟩ = some (.float .f64 x.2) := by
  have hcl := @World.ownsRow.cells _ _ _ _ _ _ _ h
  obtain ⟨_, ⟨_, h0⟩ | ⟨g, c, cur, hv, _⟩⟩ := h
  · omega
  · subst hv
    refine ⟨g, c, by rw [hl], fun i x hx => ?_⟩
    obtain ⟨c0, c1, c2⟩ := vCs_get V i x hx
    exact ⟨by rw [← lex.add0]; exact hcl (g := g) rfl _ _ c0, by rw [← lex.add0]; exact hcl (g := g) rfl _ _ c1, by rw [← lex.add0]; exact hcl (g := g) rfl _ _ c2⟩
theorem Vars_at (b p : Nat) (m : Mac) (cv sv : Value) (C : Is) (w : World) (h : MO b w p m cv sv C) :
    Calls Tryz.prog 19 #[.pointer (some ⟨p, 0, none⟩)] w fun e w' => ∃ g c, e = .returned (.slice (some ⟨g, 0, none⟩) 64 c) ∧ (∀ i, i < 64 → ∃ r, NumOk (m.vars.getD i zeroV) r ∧ w'.cell? ⟨g, i * 3, none⟩ = some (.bool (m.vars.getD i zeroV).isT) ∧ w'.cell? ⟨g, i * 3 + 1, none⟩ = some (.string ⟨(m.vars.getD i zeroV).text.toArray⟩) ∧ w'.cell? ⟨g, i * 3 + 2, none⟩ = some (.float .f64 r)) ∧ Below w.heap.size w w' :=
  (Vars_all p m cv sv C w h.at').mono fun e w' ⟨v, V, he, hr, hV, hok, hlen, hb⟩ => by
    obtain ⟨g, c, hv, hc⟩ := vars_cells hr hlen
    refine ⟨g, c, by rw [he, hv], fun i hi => ?_, hb⟩
    have hg : V[i]? = some (V[i]'(by omega)) := List.getElem?_eq_getElem (by omega)
    have e2 : m.vars.getD i zeroV = (V[i]'(by omega)).1 := by
      rw [← hV, List.getD_eq_getElem?_getD, List.getElem?_map, hg]
      rfl
    rw [e2]
    exact ⟨_, hok _ (List.getElem_mem _), hc i _ hg⟩
end Go.Proofs.YtmfpmandkhiknaaGreatDoor.mkr

namespace Go.Proofs.YtmfpmandkhiknaaGreatDoor.mkr
open Go Go.RowKit Ieee
open heap vmm
set_option linter.unusedVariables false
set_option maxRecDepth 100000

def tx0 (k : Nat) : List UInt8 := List.replicate k 0
def txC (k : Nat) : List Ins := [⟨2, 0, 0, tx0 k⟩, ⟨4, 0, 0, []⟩, ⟨3, 0, 0, []⟩, ⟨3, 0, 0, []⟩, ⟨12, 0, 0, []⟩, ⟨4, 1, 0, []⟩]
def txF (k : Nat) : Mac := runM 10 (newM ((machC (txC k)).map (·.1)) 9)
def txOk (k : Nat) : Bool := if 1024 < 2 * k then (txF k).state == 3 && (txF k).errno == 2203 && (txF k).ran == 5 else (txF k).state == 2 && ((txF k).vars.getD 1 zeroV).text.length == 2 * k
theorem tx_all : ∀ j, j < 300 → txOk (400 + j) = true := by decide +kernel
theorem tx_code (k : Nat) (h2 : k ≤ 1000) : CodeOk (txC k) := by
  have hl : (tx0 k).length = k := by simp [tx0]
  refine ⟨?_, ?_, by simp [txC], by simp [txC]⟩
  · intro x hx
    obtain ⟨i, hi, rfl⟩ := List.mem_map.1 hx
    rw [machC_len]
    simp only [txC, List.mem_cons, List.not_mem_nil, or_false] at hi
    rcases hi with rfl | rfl | rfl | rfl | rfl | rfl <;> rfl
  · intro i hi
    simp only [txC, List.mem_cons, List.not_mem_nil, or_false] at hi
    rcases hi with rfl | rfl | rfl | rfl | rfl | rfl <;> exact (by decide : (0 : Nat) < 18446744073709551616)
end Go.Proofs.YtmfpmandkhiknaaGreatDoor.mkr

namespace Go.Proofs.YtmfpmandkhiknaaGreatDoor.mkr
open Go Go.RowKit
open heap vmm
open lex (run_store_float add0)
set_option linter.unusedVariables false
set_option linter.unusedSimpArgs false
set_option maxRecDepth 100000
attribute [local go_sem] run_store_float

theorem modT (z : Int) : ∃ j : Nat, j < 300 ∧ wrap64 ((IntKind.u64.wrap z).tmod 300) = (j : Int) := by
  have h0 : 0 ≤ IntKind.u64.wrap z := by
    unfold IntKind.wrap
    simp [IntKind.signed, IntKind.bits]
    omega
  generalize IntKind.u64.wrap z = u at *
  obtain ⟨n, rfl⟩ : ∃ n : Nat, u = n := ⟨u.toNat, by omega⟩
  refine ⟨n % 300, by omega, ?_⟩
  have h1 : ((n : Int)).tmod 300 = ((n % 300 : Nat) : Int) := by
    rw [Int.tmod_eq_emod_of_nonneg (by omega)]
    rfl
  rw [h1]
  exact IntWalk.wrap64_in _ (by omega)
theorem tx_row (W : World) (b k : Nat) (hb : b ≤ W.heap.size) : CRow (W.alloc (.cells #[.int .i64 2, .int .i64 0, .float .f64 0, .string ⟨(tx0 k).toArray⟩, .int .i64 4, .int .i64 0, .float .f64 0, .string ⟨#[]⟩, .int .i64 3, .int .i64 0, .float .f64 0, .string ⟨#[]⟩, .int .i64 3, .int .i64 0, .float .f64 0, .string ⟨#[]⟩, .int .i64 12, .int .i64 0, .float .f64 0, .string ⟨#[]⟩, .int .i64 4, .int .i64 1, .float .f64 0, .string ⟨#[]⟩] 54)) b (.slice (some ⟨W.heap.size, 0, none⟩) 6 6) (txC k) :=
  ⟨rfl, .inr ⟨_, 6, _, rfl, hb, blk_new _ _, (by decide : 6 ≤ 6), by decide, rfl, rfl⟩⟩
set_option maxHeartbeats 4000000 in
theorem texts_any (z : Int) (w : World) : Calls Tryz.prog 7 #[.int .i64 z] w fun e w' => e = .returned (.bool true) ∧ Below w.heap.size w w' := by
  obtain ⟨j, hj, hje⟩ := modT z
  have e1 : wrap64 (400 + (j : Int)) = ((400 + j : Nat) : Int) := by
    rw [IntWalk.wrap64_in _ (by omega)]; omega
  have HAW := Lib.hid (fun W => awake_any W)
  have HOK := Lib.hid (tx_all j hj)
  have HCODE := Lib.hid (tx_code (400 + j) (by omega))
  obtain ⟨i0, hi, hz0, hz1, hz2⟩ := info_parts num.infoU8
  have hmk : ∀ u : World, (Instr.makeSlice 58 (.int .i64 (400 + (j : Int))) (.int .i64 (400 + (j : Int)))).run Tryz.prog u =
      .ok (.slice (some ⟨u.heap.size, 0, none⟩) (400 + j) (400 + j)) (u.alloc (.cells (((tx0 (400 + j)).map lex.bV).toArray) 5)) := fun u => by
    have h := run_make (P := Tryz.prog) u 58 5 i0 (.int .u8 0) Tryz.underlying58 hi hz0 .i64 .i64 (400 + (j : Int)) (400 + (j : Int)) (by omega) (Int.le_refl _) (by rw [hz2]; omega) (by omega)
    rw [show (400 + (j : Int)).toNat = 400 + j from by omega] at h
    have e3 : madeCells #[Value.int .u8 0] (400 + j) = ((tx0 (400 + j)).map lex.bV).toArray := by
      rw [← Array.toList_inj, toList_madeCells_one]
      simp [tx0]
      rfl
    rw [← e3]
    simpa [hz1, Value.cells] using h
  have hcv : ∀ u : World, (convert 58 9 (.slice (some ⟨u.heap.size, 0, none⟩) (400 + j) (400 + j))).run Tryz.prog (u.alloc (.cells (((tx0 (400 + j)).map lex.bV).toArray) 5)) = .ok (.string ⟨(tx0 (400 + j)).toArray⟩) (u.alloc (.cells (((tx0 (400 + j)).map lex.bV).toArray) 5)) := fun u => by
    have e2 : (tx0 (400 + j)).length = 400 + j := by simp [tx0]
    have := run_convert_bytes_back (P := Tryz.prog) (u.alloc (.cells (((tx0 (400 + j)).map lex.bV).toArray) 5)) 58 9 5 ⟨u.heap.size, 0, none⟩ (400 + j) (tx0 (400 + j)) Tryz.underlying58 Tryz.underlying5 Tryz.underlying9 (fun q hq => by
      rw [add0, blk_cell (blk_new u _)]
      simp [lex.bV, hq])
    rw [e2] at this
    exact this
  clear hi hz0 hz1 hz2 i0
  go_enter Tryz.func7, Tryz.ntmps7
  go_upto_region 2 with (go_at_call 11; refine (HAW.out _).mono ?_; rintro e w2 ⟨rfl, hb⟩; have HB2 := Lib.hid hb; clear hb)
  go_wp2_with fail
  have HCR := Lib.hid (tx_row (w2.alloc (.cells (((tx0 (400 + j)).map lex.bV).toArray) 5)) w.heap.size (400 + j) (by have := HB2.out.size; simp; omega))
  have HB3 := Lib.hid ((HB2.out.alloc HB2.out.size (.cells (((tx0 (400 + j)).map lex.bV).toArray) 5)).alloc (by have := HB2.out.size; simp; omega) (.cells #[.int .i64 2, .int .i64 0, .float .f64 0, .string ⟨(tx0 (400 + j)).toArray⟩, .int .i64 4, .int .i64 0, .float .f64 0, .string ⟨#[]⟩, .int .i64 3, .int .i64 0, .float .f64 0, .string ⟨#[]⟩, .int .i64 3, .int .i64 0, .float .f64 0, .string ⟨#[]⟩, .int .i64 12, .int .i64 0, .float .f64 0, .string ⟨#[]⟩, .int .i64 4, .int .i64 1, .float .f64 0, .string ⟨#[]⟩] 54))
  have ehs : (w2.alloc (.cells (((tx0 (400 + j)).map lex.bV).toArray) 5)).heap.size = w2.heap.size + 1 := by simp
  rw [ehs] at HCR
  generalize (w2.alloc (.cells (((tx0 (400 + j)).map lex.bV).toArray) 5)).alloc (.cells #[.int .i64 2, .int .i64 0, .float .f64 0, .string ⟨(tx0 (400 + j)).toArray⟩, .int .i64 4, .int .i64 0, .float .f64 0, .string ⟨#[]⟩, .int .i64 3, .int .i64 0, .float .f64 0, .string ⟨#[]⟩, .int .i64 3, .int .i64 0, .float .f64 0, .string ⟨#[]⟩, .int .i64 12, .int .i64 0, .float .f64 0, .string ⟨#[]⟩, .int .i64 4, .int .i64 1, .float .f64 0, .string ⟨#[]⟩] 54) = wx at *
  have HNE := Lib.hid (new_o w.heap.size _ (txC (400 + j)) 9 wx HCR.out HCODE.out (by decide) HB3.out.size)
  have HRU := Lib.hid (fun p cv sv W h => run_o w.heap.size p (newM ((machC (txC (400 + j))).map (·.1)) ((9 : Nat) : Int)) cv sv (machC (txC (400 + j))) 10 W h (by show (9 : Int) < 10; decide))
  have eF : runM 10 (newM ((machC (txC (400 + j))).map (·.1)) ((9 : Nat) : Int)) = txF (400 + j) := rfl
  rw [eF] at HRU
  have HER := Lib.hid (fun p cv sv W (h : MO w.heap.size W p (txF (400 + j)) cv sv (machC (txC (400 + j)))) => Error_any p (txF (400 + j)) cv sv (machC (txC (400 + j))) W h.at')
  have HRN := Lib.hid (fun p cv sv W (h : MO w.heap.size W p (txF (400 + j)) cv sv (machC (txC (400 + j)))) => Ran_any p (txF (400 + j)) cv sv (machC (txC (400 + j))) W h.at')
  have HVA := Lib.hid (fun p cv sv W (h : MO w.heap.size W p (txF (400 + j)) cv sv (machC (txC (400 + j)))) => Vars_at w.heap.size p (txF (400 + j)) cv sv (machC (txC (400 + j))) W h)
  have hokk := HOK.out
  unfold txOk at hokk
  clear eF HCODE HOK HCR hmk hcv
  generalize txF (400 + j) = mF at *
  generalize newM ((machC (txC (400 + j))).map (·.1)) ((9 : Nat) : Int) = m0 at *
  generalize machC (txC (400 + j)) = C at *
  by_cases hbig : 1024 < 2 * (400 + j)
  · have hd : decide ((1024 : Int) < 2 * (400 + (j : Int))) = true := decide_eq_true (by omega)
    rw [if_pos hbig] at hokk
    simp only [Bool.and_eq_true, beq_iff_eq] at hokk
    obtain ⟨⟨h1, h2⟩, h3⟩ := hokk
    rw [h1] at HRU
    rw [h2] at HER
    rw [h3] at HRN
    clear h1 h2 h3
    go_wp2_with (first | (go_at_call 12; refine (HNE.out).mono ?_; rintro e w3 ⟨p, cv, rfl, hmo, -, -, hb⟩; have HM3 := Lib.hid hmo; have HB4 := Lib.hid (HB3.out.trans (hb.mono HB3.out.size)); clear hmo hb) | (go_at_call 15; refine (HRU.out _ _ _ _ HM3.out).mono ?_; rintro e w4 ⟨rfl, ⟨sv4, hmo, -⟩, hb⟩; have HM5 := Lib.hid (hmo.below ((Below.refl _ _).alloc (Nat.le_refl _) (cO mF.call))); have HB5 := Lib.hid ((HB4.out.trans hb).alloc (HB4.out.trans hb).size (cO mF.call)); clear hmo hb) | (go_at_call 14; refine (Num_any _ _).mono ?_; rintro e w' ⟨rfl, rfl⟩) | (go_at_call 16; refine (HER.out _ _ _ _ HM5.out).mono ?_; rintro e w6 ⟨rfl, hb⟩; have HB6 := Lib.hid (HB5.out.trans (hb.mono HB5.out.size)); have HM6 := Lib.hid (HM5.out.below hb); clear hb) | (go_at_call 19; refine (HVA.out _ _ _ _ HM6.out).mono ?_; rintro e w7 ⟨g7, c7, rfl, hcs, hb⟩; obtain ⟨r1, -, v10, v11, v12⟩ := hcs 1 (by decide); have HB7 := Lib.hid (HB6.out.trans (hb.mono HB6.out.size)); have HM7 := Lib.hid (HM6.out.below hb); clear hb hcs) | (go_at_call 17; refine (HRN.out _ _ _ _ HM7.out).mono ?_; rintro e w8 ⟨rfl, rfl⟩))
    go_ret
    exact ⟨rfl, HB7.out⟩
  · have hd : decide ((1024 : Int) < 2 * (400 + (j : Int))) = false := decide_eq_false (by omega)
    rw [if_neg hbig] at hokk
    simp only [Bool.and_eq_true, beq_iff_eq] at hokk
    obtain ⟨h1, h2⟩ := hokk
    rw [h1] at HRU
    have h2' : ((mF.vars.getD 1 zeroV).text.length : Int) = 2 * (400 + (j : Int)) := by omega
    clear h1
    have HEQ : Hid ((((mF.vars[1]?.getD zeroV).text.length : Int) == 2 * (400 + (j : Int))) = true) := by
      unfold Hid
      rw [beq_iff_eq, ← List.getD_eq_getElem?_getD]
      exact h2'
    clear h2 h2'
    go_wp2_with (first | (go_at_call 12; refine (HNE.out).mono ?_; rintro e w3 ⟨p, cv, rfl, hmo, -, -, hb⟩; have HM3 := Lib.hid hmo; have HB4 := Lib.hid (HB3.out.trans (hb.mono HB3.out.size)); clear hmo hb) | (go_at_call 15; refine (HRU.out _ _ _ _ HM3.out).mono ?_; rintro e w4 ⟨rfl, ⟨sv4, hmo, -⟩, hb⟩; have HM5 := Lib.hid (hmo.below ((Below.refl _ _).alloc (Nat.le_refl _) (cO mF.call))); have HB5 := Lib.hid ((HB4.out.trans hb).alloc (HB4.out.trans hb).size (cO mF.call)); clear hmo hb) | (go_at_call 14; refine (Num_any _ _).mono ?_; rintro e w' ⟨rfl, rfl⟩) | (go_at_call 16; refine (HER.out _ _ _ _ HM5.out).mono ?_; rintro e w6 ⟨rfl, hb⟩; have HB6 := Lib.hid (HB5.out.trans (hb.mono HB5.out.size)); have HM6 := Lib.hid (HM5.out.below hb); clear hb) | (go_at_call 19; refine (HVA.out _ _ _ _ HM6.out).mono ?_; rintro e w7 ⟨g7, c7, rfl, hcs, hb⟩; obtain ⟨r1, -, v10, v11, v12⟩ := hcs 1 (by decide); have HB7 := Lib.hid (HB6.out.trans (hb.mono HB6.out.size)); have HM7 := Lib.hid (HM6.out.below hb); clear hb hcs) | (go_at_call 17; refine (HRN.out _ _ _ _ HM7.out).mono ?_; rintro e w8 ⟨rfl, rfl⟩))
    rw [HEQ.out]
    go_ret
    exact ⟨rfl, HB7.out⟩
end Go.Proofs.YtmfpmandkhiknaaGreatDoor.mkr
