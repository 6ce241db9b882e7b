/-
  Proved: what the document's own Clean gives. Conditions: as each theorem says.
-/
import Derived.Test.YtfmalomhmijciaaPathRef3
import Derived.ArgAppend
import Derived.Deep.Upon
namespace Go.Proofs.Ytfmalomhmijciaa.path
open Go.RowKit Go.Shelf
open heap
set_option linter.unusedVariables false

/-- Operation 8 may write into what the region has made; every other one makes blocks alone. -/
structure xk (B : Nat) (ws : List (List UInt8)) (p : List UInt8) (j : Nat) (w1 w2 : World) : Prop where
  bel : Below B w1 w2
  ext : j ≠ 8 → Below w1.heap.size w1 w2
  k0 : ∀ g : Nat, w1.heap[g]? = some (.cells #[] 9 (0, 0)) → w2.heap[g]? = some (.cells #[] 9 (0, 0))
  k7 : ∀ g : Nat, w1.heap[g]? = some (.cells #[sv p] 9 (0, 0)) → w2.heap[g]? = some (.cells #[sv p] 9 (0, 0))
  k2 : ∀ v, SRow w1 B v ws → SRow w2 B v ws
theorem xk_ext {B j : Nat} {ws : List (List UInt8)} {p : List UInt8} {w1 w2 : World} (hB : B ≤ w1.heap.size) (h : Below w1.heap.size w1 w2) : xk B ws p j w1 w2 := ⟨h.mono hB, fun _ => h, fun _ hg => blk_below hg h, fun _ hg => blk_below hg h, fun _ hg => SRow.below hg h⟩
theorem xk_refl (B : Nat) (ws : List (List UInt8)) (p : List UInt8) (j : Nat) (w : World) : xk B ws p j w w := ⟨Below.refl _ _, fun _ => Below.refl _ _, fun _ h => h, fun _ h => h, fun _ h => h⟩
/-- One text more. -/
theorem app_one (w : World) (B g : Nat) (v : Value) (ws : List (List UInt8)) (p : List UInt8) (h : SRow w B v ws) (hg : w.heap[g]? = some (.cells #[sv p] 9 (0, 0))) (hB : B ≤ w.heap.size) (hn : ws.length ≤ 9000000) :
    ∃ v2 w2, (Builtin.append_ #[27, 27] 27 #[v, .slice (some ⟨g, 0, none⟩) 1 1]).run Try.prog w = .ok v2 w2 ∧ SRow w2 B v2 (ws ++ [p]) ∧ xk B ws p 8 w w2 := by
  have hnews : ∀ j u, [sv p][j]? = some u → w.cell? ((⟨g, 0, none⟩ : Addr).add j) = some u := fun k u hu => by rw [add0, blk_cell hg]; simpa using hu
  have hrow : ∀ v2 w2, w2.ownsRow B 9 1 v2 (ws.length + 1) (ws.map sv ++ [sv p]) → SRow w2 B v2 (ws ++ [p]) := fun v2 w2 h => by unfold SRow; rw [List.length_append, List.map_append]; exact h
  obtain ⟨i0, hi, hz0, hz1, hz2⟩ := info_parts infoS
  have hsv := h
  obtain ⟨hl, ⟨rfl, h0⟩ | ⟨g2, c, cur, rfl, h2, h3, h4, h5, h6, h7⟩⟩ := h
  · obtain ⟨g0, cp, w2, hrun, hown, hgr, _⟩ := append_s w B (.slice none 0 0) ws.length _ hsv ⟨g, 0, none⟩ 1 1 [sv p] rfl hnews (by simp [Value.oneCell']) (by decide) (by omega) hB
    exact ⟨_, w2, hrun, hrow _ _ hown, xk_ext hB ⟨hgr.os, hgr.tape, hgr.output, hgr.size, fun b hb => hgr.block b hb (by simp [Value.ownBlock])⟩⟩
  · by_cases hroom : ws.length + 1 ≤ c
    · obtain ⟨w2, hrun, hown, hgr⟩ := run_append_fits (P := Try.prog) w B 27 27 9 i0 1 Try.underlying27 hi hz1 g2 ws.length c _ hsv ⟨g, 0, none⟩ 1 1 [sv p] rfl hnews (by simp [Value.oneCell']) hroom
      refine ⟨_, w2, hrun, hrow _ _ hown, ?_⟩
      obtain ⟨hl', ⟨h', _⟩ | ⟨g3, c3, cur3, hv3, k2, k3, k4, k5, k6, k7⟩⟩ := hown
      · cases h'
      · simp only [Value.slice.injEq, Option.some.injEq, Addr.mk.injEq] at hv3
        obtain ⟨⟨rfl, -, -⟩, -, rfl⟩ := hv3
        have hoth : ∀ b o, w.heap[b]? = some o → b ≠ g2 → w2.heap[b]? = some o := fun b o ho hb => by rw [hgr.block b (blk_lt ho) (fun e => hb (by simpa using e))]; exact ho
        refine ⟨⟨hgr.os, hgr.tape, hgr.output, hgr.size, fun b hb => hgr.block b (by omega) (fun e => by simp at e; omega)⟩, fun h => absurd rfl h, fun b hb => ?_, fun b hb => ?_, fun v hv => ?_⟩
        · refine hoth b _ hb (fun e => ?_)
          subst e
          rw [h3] at hb
          simp only [Option.some.injEq, Obj.cells.injEq] at hb
          rw [hb.1] at h6
          simp at h6
          omega
        · by_cases e : b = g2
          · subst e
            rw [h3] at hb
            simp only [Option.some.injEq, Obj.cells.injEq] at hb
            rw [hb.1] at h6
            simp at h6
            have hw0 : ws = [] := List.length_eq_zero_iff.1 (by omega)
            subst hw0
            rw [k3]
            have e3 : cur3.toList = [sv p] := by
              have : cur3.toList.length ≤ (([] : List (List UInt8)).length + 1) * 1 := by rw [Array.length_toList, k6]; simp; omega
              rw [List.take_of_length_le this] at k7
              simpa using k7
            have : cur3 = #[sv p] := by rw [← Array.toList_inj]; simpa using e3
            rw [this]
          · exact hoth b _ hb e
        · obtain ⟨hl5, ⟨rfl, h50⟩ | ⟨g5, c5, cur5, rfl, m2, m3, m4, m5, m6, m7⟩⟩ := hv
          · exact ⟨hl5, .inl ⟨rfl, h50⟩⟩
          · by_cases e : g5 = g2
            · subst e
              rw [h3] at m3
              simp only [Option.some.injEq, Obj.cells.injEq] at m3
              obtain ⟨rfl, -, -⟩ := m3
              refine ⟨hl5, .inr ⟨g5, c5, cur3, rfl, m2, k3, m4, m5, by omega, ?_⟩⟩
              have := congrArg (List.take (ws.length * 1)) k7
              rw [List.take_take, List.take_append_of_le_length (by simp), show min (ws.length * 1) ((ws.length + 1) * 1) = ws.length * 1 by omega] at this
              rw [this]
              rw [List.take_of_length_le (by simp)]
            · exact ⟨hl5, .inr ⟨g5, c5, cur5, rfl, m2, hoth g5 _ m3 e, m4, m5, m6, m7⟩⟩
    · obtain ⟨v2, w2, hrun, hown, hgr⟩ := run_append_arg_grows (P := Try.prog) (w := w) 27 27 9 i0 _ 1 16 Try.underlying27 hi hz0 hz1 hz2 rfl (by decide) ⟨g2, 0, none⟩ ws.length c (ws.map sv) (by simp) (fun j u hu => by
        have := @World.ownsRow.cells _ _ _ _ _ _ _ hsv (g := g2) rfl j u hu
        exact this) ⟨g, 0, none⟩ 1 1 [sv p] rfl hnews (by omega) (by unfold maxLen; omega) (by omega)
      exact ⟨v2, w2, hrun, hrow _ _ (own_base hown hB), xk_ext hB ⟨hgr.os, hgr.tape, hgr.output, hgr.size, fun b hb => hgr.block b hb (by simp)⟩⟩
/-- A row behind an empty one that was just made. -/
theorem app_all (w : World) (g base b0 : Nat) (hg : w.heap[g]? = some (.cells #[] 9 (0, 0))) (hb : base ≤ g) (a : Option Addr) (n c : Nat) (ws : List (List UInt8)) (h : SRow w b0 (.slice a n c) ws) (hn : ws.length ≤ 9000000) :
    ∃ v2 w2, (Builtin.append_ #[27, 27] 27 #[.slice (some ⟨g, 0, none⟩) 0 0, .slice a n c]).run Try.prog w = .ok v2 w2 ∧ SRow w2 base v2 ws ∧ Below w.heap.size w w2 := by
  obtain ⟨i0, hi, hz0, hz1, hz2⟩ := info_parts infoS
  have hlt := blk_lt hg
  have hnn : n = ws.length := (SRow.drop h).1
  by_cases h0 : ws = []
  · subst h0
    obtain rfl : n = 0 := hnn
    refine ⟨.slice (some ⟨g, 0, none⟩) 0 0, w, ?_, ⟨rfl, .inr ⟨g, 0, #[], rfl, hb, hg, Nat.le_refl _, by decide, rfl, rfl⟩⟩, Below.refl _ _⟩
    cases a with
    | none => exact run_append_nothing w _ _ _ 9 i0 Try.underlying27 hi _ 0 0 (Nat.le_refl _) _ (Src.ofNil w Try.underlying27 c)
    | some ad => exact run_append_nothing w _ _ _ 9 i0 Try.underlying27 hi _ 0 0 (Nat.le_refl _) _ (Src.ofSlice w Try.underlying27 ad 0 c [] (by simp) (fun j u hu => by simp at hu) (fun u hu => by cases hu))
  · rcases h.cells with ⟨-, hw⟩ | ⟨g1, c', hv', hgl1, hc1, hc2, hcell1⟩
    · exact absurd hw h0
    · simp only [Value.slice.injEq] at hv'
      obtain ⟨rfl, rfl, rfl⟩ := hv'
      have hpos : 0 < ws.length := List.length_pos_iff.2 h0
      obtain ⟨v2, w2, h1, h2, h3⟩ := run_append_arg_grows (P := Try.prog) (w := w) 27 27 9 i0 _ 1 16 Try.underlying27 hi hz0 hz1 hz2 rfl (by decide) ⟨g, 0, none⟩ 0 0 [] rfl (fun j u hu => by simp at hu) ⟨g1, 0, none⟩ ws.length c (ws.map sv) (by simp) (fun j u hu => by
        rw [List.getElem?_map] at hu
        cases hq : ws[j]? with
        | none => simp [hq] at hu
        | some q =>
          simp [hq] at hu
          rw [add0, ← hu]
          exact hcell1 j q hq) (by omega) (by unfold maxLen; omega) (by omega)
      refine ⟨v2, w2, h1, ?_, ⟨h3.os, h3.tape, h3.output, h3.size, fun b hb => h3.block b hb (by simp)⟩⟩
      rw [Nat.zero_add, List.nil_append] at h2
      exact own_base h2 (by omega)
theorem take_snoc (ps : List (List UInt8)) (j : Nat) (p : List UInt8) (h : ps[j]? = some p) : ps.take (j + 1) = ps.take j ++ [p] := by rw [List.take_add_one, h]; rfl
set_option maxRecDepth 100000 in
set_option maxHeartbeats 4000000 in
theorem rClean_main (cwd s : List UInt8) (w : World) (hc : cwd.length ≤ 2000000) (hcl : cleanB cwd = true) (h0 : s ≠ []) (hs : s.length ≤ 560) :
    Calls Try.prog 11 #[sv cwd, sv s] w fun e w' => e = .returned (.tuple #[sv (cleanR cwd s).1, .int .i64 (cleanR cwd s).2]) ∧ Below w.heap.size w w' := by
  have HC := Lib.hid (fun W : World => rIsClean_any cwd W hc)
  rw [hcl] at HC
  have z := str_size s
  have hcw : cwd.length ≤ 140 := ((clean_parts cwd).1 hcl).2.1
  have hst : (startW cwd s).length ≤ 8 := by
    unfold startW
    split
    · simp
    · exact ((clean_parts cwd).1 hcl).1
  have b0 : s.isEmpty = false := by cases s <;> simp_all
  have b0' : (s == []) = false := by rw [beq_eq_false_iff_ne]; exact h0
  have HPA := Lib.hid (fun W : World => rParts_any cwd W hc)
  have HCU := Lib.hid (fun W : World => rCut_any s W (by omega))
  have hpos : 0 < s.length := by cases s <;> simp_all
  have hz0 : 0 < (⟨s.toArray⟩ : ByteArray).size := by rw [z]; exact hpos
  have hhd : s.head? = some ((⟨s.toArray⟩ : ByteArray)[0]'hz0) := by
    cases s with
    | nil => simp at hpos
    | cons c r => rfl
  obtain ⟨x0, hx0⟩ : ∃ x0 : UInt8, (⟨s.toArray⟩ : ByteArray)[0]'hz0 = x0 := ⟨_, rfl⟩
  rw [hx0] at hhd
  obtain ⟨c0, hc0⟩ : ∃ c0 : Nat, x0.toNat = c0 := ⟨_, rfl⟩
  have d560 : decide ((560 : Int) < (s.length : Int)) = false := by simp; omega
  have hCR : cleanR cwd s = (match wayW (startW cwd s) (piecesL s) with
    | none => ([], 401)
    | some way => if way.length > 8 then ([], 402) else if (joinL way).length > 140 then ([], 403) else (joinL way, 0)) := by
    rw [cleanR, hcl, if_neg (by simp), if_neg h0, if_neg (by omega)]
    rfl
  have hcase : (((c0 : Int) != 47) = false ∧ startW cwd s = []) ∨ (((c0 : Int) != 47) = true ∧ startW cwd s = partsL cwd) := by
    by_cases hh : x0 = 47
    · left
      refine ⟨by rw [← hc0, hh]; rfl, ?_⟩
      rw [startW, if_pos (by rw [hhd, hh])]
    · right
      refine ⟨?_, ?_⟩
      · rw [bne_iff_ne, ← hc0]
        intro h
        exact hh (UInt8.toNat_inj.1 (by have : x0.toNat = 47 := by omega
                                        rw [this]; rfl))
      · rw [startW, if_neg (by rw [hhd]; intro h; exact hh (by simpa using h))]
  have HGW := Lib.hid (fun ws (h : wayW (startW cwd s) (piecesL s) = some ws) => wayW_good _ _ ws h (start_good cwd s hcl))
  have HBD := Lib.hid (pieces_bd s)
  generalize startW cwd s = st at *
  generalize piecesL s = ps at *
  have HCR := Lib.hid hCR
  generalize cleanR cwd s = R at *
  have hpsl : ps.length ≤ 561 := by have := HBD.out.1; omega
  clear hCR hhd h0 hpos hcl
  go_enter Try.func11, Try.ntmps11
  go_wp2_with fail
  (with_reducible refine (HC.out _).mono ?_); rintro e w1 ⟨rfl, hb1⟩
  have HB1 := Lib.hid hb1
  clear hb1 HC
  rcases hcase with ⟨hb22, hst0⟩ | ⟨hb22, hst0⟩
  case' inl =>
    have HR6 : Hid (SRow w1 w.heap.size (.slice none 0 0) st ∧ Below w.heap.size w w1) := ⟨by rw [hst0]; exact World.ownsRow_nil _ _ _ _, HB1.out⟩
    clear hst0 HPA
    go_wp2_with fail
  case' inr =>
    go_wp2_with fail
    (with_reducible refine (HPA.out _).mono ?_); rintro e w2 ⟨v, rfl, hr, hb⟩
    rw [← hst0] at hr
    obtain ⟨a, cp, rfl⟩ := own_slice hr
    have HR6 : Hid (SRow w2 w.heap.size (.slice a st.length cp) st ∧ Below w.heap.size w w2) := ⟨own_base hr HB1.out.size, HB1.out.trans (hb.mono HB1.out.size)⟩
    clear hr hb hst0 HPA HB1
    go_wp2_with fail
  all_goals
    (with_reducible refine (HCU.out _).mono ?_)
    rintro e w3 ⟨v7, rfl, hr7, hb7⟩
    obtain ⟨a7, c7, rfl⟩ := own_slice hr7
    have HR7 : Hid (∀ W, Below w3.heap.size w3 W → SRow W 0 (.slice a7 ps.length c7) ps) := fun W h => SRow.below (own_base hr7 (Nat.zero_le _)) h
    have HS6 := Lib.hid (And.intro (HR6.out.1.below hb7) (HR6.out.2.trans (hb7.mono HR6.out.2.size)))
    clear hr7 hb7 HR6 HCU
    go_wp2_with fail
    go_loopw [6, 8] (fun v6 i wr => ∃ (j : Nat) (a : Option Addr) (n c : Nat) (ws : List (List UInt8)), j ≤ ps.length ∧ i = .int .i64 j ∧ v6 = .slice a n c ∧ Hid (wayW st (ps.take j) = some ws ∧ SRow wr w.heap.size (.slice a n c) ws ∧ Below w3.heap.size w3 wr)) (fun _ i _ => ps.length - (intOf i).toNat)
    case atStart => exact ⟨0, _, _, _, st, by omega, rfl, rfl, by simp [wayW], HS6.out.1, Below.refl _ _⟩
    case round =>
      obtain ⟨j, a6, n6, c6, ws, hj, rfl, rfl, HH⟩ := hrel
      obtain rfl : n6 = ws.length := (SRow.drop HH.out.2.1).1
      have HWB : Hid (Below w.heap.size w wr) := HS6.out.2.trans (HH.out.2.2.mono HS6.out.2.size)
      have hwl : ws.length ≤ 569 := by have := wayW_len _ _ _ HH.out.1; rw [List.length_take] at this; omega
      by_cases hlt : j < ps.length
      · rcases (HR7.out _ HH.out.2.2).cells with ⟨-, hw⟩ | ⟨g7, c', hv', hgl, hc1, hc2, hcell⟩
        · rw [hw] at hlt; simp at hlt
        · simp only [Value.slice.injEq] at hv'
          obtain ⟨rfl, -, rfl⟩ := hv'
          obtain ⟨p, hp⟩ : ∃ p, ps[j]? = some p := ⟨_, List.getElem?_eq_getElem hlt⟩
          have hcp := hcell j p hp
          have hji : (j : Int) < ps.length := by omega
          have hpl := (HBD.out.2 p (List.mem_of_getElem? hp)).1
          have hsn : wayW st (ps.take (j + 1)) = stepW ws p := by rw [take_snoc ps j p hp, wayW_snoc, HH.out.1, Option.bind_some]
          have HSN := Lib.hid hsn
          unfold maxLen at hc2
          clear hcell hp hsn
          by_cases hx1 : p = [] ∨ p = [46]
          · have HST : Hid (wayW st (ps.take (j + 1)) = some ws) := by rw [Hid, HSN.out, stepW, if_pos hx1]
            clear HSN
            rcases hx1 with rfl | rfl
            · go_wp2_with fail
              go_roundw
              case rel => exact ⟨j + 1, a6, _, c6, ws, by omega, by go_num, rfl, HST.out, HH.out.2⟩
              case measure => simp [intOf]; omega
            · go_wp2_with fail
              go_roundw
              case rel => exact ⟨j + 1, a6, _, c6, ws, by omega, by go_num, rfl, HST.out, HH.out.2⟩
              case measure => simp [intOf]; omega
          · by_cases hx2 : p = [46, 46]
            · have HST : Hid (wayW st (ps.take (j + 1)) = some ws.dropLast) := by rw [Hid, HSN.out, stepW, if_neg hx1, if_pos hx2]
              have HROW := Lib.hid (SRow.drop HH.out.2.1).2
              subst hx2
              clear hx1 HSN
              rcases HH.out.2.1.cells with ⟨hv', hw'⟩ | ⟨g, c', hv', hg1, hc1', hc2', _⟩
              · simp only [Value.slice.injEq] at hv'
                obtain ⟨rfl, hn, rfl⟩ := hv'
                rw [hn] at HROW
                have hn0 : (ws.length : Int) = 0 := by omega
                clear hw'
                rw [hn]
                go_wp2_with fail
                go_roundw
                case rel => exact ⟨j + 1, none, _, 0, _, by omega, by go_num, rfl, HST.out, HROW.out, HH.out.2.2⟩
                case measure => simp [intOf]; omega
              · simp only [Value.slice.injEq] at hv'
                obtain ⟨rfl, -, rfl⟩ := hv'
                unfold maxLen at hc2'
                rcases Nat.eq_zero_or_pos ws.length with hz | hz
                · rw [hz] at HROW hc1'
                  rw [hz]
                  clear hwl
                  go_wp2_with fail
                  go_roundw
                  case rel => exact ⟨j + 1, _, _, _, _, by omega, by go_num, rfl, HST.out, HROW.out, HH.out.2.2⟩
                  case measure => simp [intOf]; omega
                · have hm1 : max (0 : Int) ((ws.length : Int) - 1) = (ws.length : Int) - 1 := by omega
                  go_wp2_with fail
                  go_roundw
                  case rel => exact ⟨j + 1, _, ws.length - 1, _, _, by omega, by go_num, by first | rfl | (congr 1; omega), HST.out, HROW.out, HH.out.2.2⟩
                  case measure => simp [intOf]; omega
            · have b1 : p.isEmpty = false := by cases p <;> simp_all
              have b1' : (p == []) = false := by rw [beq_eq_false_iff_ne]; exact fun h => hx1 (.inl h)
              have b2 : (p == [46]) = false := by rw [beq_eq_false_iff_ne]; exact fun h => hx1 (.inr h)
              have b3 : (p == [46, 46]) = false := by rw [beq_eq_false_iff_ne]; exact hx2
              have HN := Lib.hid (fun W : World => rName_any p W (by omega))
              by_cases hn : nameE p = 0
              · rw [hn] at HN
                have HST : Hid (wayW st (ps.take (j + 1)) = some (ws ++ [p])) := by rw [Hid, HSN.out, stepW, if_neg hx1, if_neg hx2, if_neg (by simp [hn])]
                clear hx1 hx2 hn HSN
                go_wp2_with fail
                (with_reducible refine (HN.out _).mono ?_); rintro e w5 ⟨rfl, rfl⟩
                go_wp2_with fail
                refine reg.region_eachG (by kernel_rfl) (xk wr.heap.size ws p) (fun w' => Below wr.heap.size wr w') (fun ri v w' => match ri with
                    | 0 => ∃ g, v = .slice (some ⟨g, 0, none⟩) 0 0 ∧ wr.heap.size ≤ g ∧ w'.heap[g]? = some (.cells #[] 9 (0, 0))
                    | 1 => v = .slice a6 ws.length c6
                    | 2 => SRow w' wr.heap.size v ws
                    | 3 => v = .slice (some ⟨g7, 0, none⟩) ps.length c7
                    | 4 => v = .int .i64 j
                    | 5 => v = .pointer (some ⟨g7, j, none⟩)
                    | 6 => v = sv p
                    | 7 => ∃ g, v = .slice (some ⟨g, 0, none⟩) 1 1 ∧ wr.heap.size ≤ g ∧ w'.heap[g]? = some (.cells #[sv p] 9 (0, 0))
                    | 8 => SRow w' wr.heap.size v (ws ++ [p])
                    | 9 => SRow w' wr.heap.size v (ws ++ [p])
                    | _ => True) (fun _ _ => True
                    ) ?_ ?_ ?_ ?_ ?_ (by kernel_rfl) ?_ ?_
                · exact ⟨rfl, rfl, rfl, Nat.le_refl _, fun _ _ => rfl⟩
                ·
                  intro k
                  trivial
                ·
                  intro j w1 w2 h hx
                  exact h.trans hx.bel
                ·
                  intro j i v w1 w2 hij hj hr h hx
                  rcases i with _|_|_|_|_|_|_|_|_|_|i
                  · (obtain ⟨g, h1, h2, h3⟩ := h; exact ⟨g, h1, h2, hx.k0 g h3⟩)
                  · exact h
                  · exact hx.k2 v h
                  · exact h
                  · exact h
                  · exact h
                  · exact h
                  · (obtain ⟨g, h1, h2, h3⟩ := h; exact ⟨g, h1, h2, hx.k7 g h3⟩)
                  · exact SRow.below h (hx.ext (fun e => hij e.symm))
                  · exact (reg.last_no (by kernel_rfl) hij hj hr).elim
                  · trivial
                ·
                  intro j k w1 w2 hkj h hx
                  exact h
                ·
                  refine ⟨?_, ?_, ?_, ?_, ?_, ?_, ?_, ?_, ?_, ?_, trivial⟩
                  · -- 0: slot 32 := Op.buildSlice 27 0 #[]
                    intro ra w' hx hg hs
                    clear hs
                    have hcw := (hx.cell (World.block_lt_of_cell? _ _ hcp)).trans hcp
                    change Oper.wp _ _ ra w' _ _
                    refine reg.wp_value (v := .slice (some ⟨w'.heap.size, 0, none⟩) 0 0) (w' := w'.alloc (.cells #[] 9 (0, 0))) ?_ ⟨_, rfl, xk_ext hx.size ((Below.refl _ _).alloc (Nat.le_refl _) _), _, rfl, hx.size, blk_new _ _⟩
                    intro ρ rc rf rg re
                    simp [execOp, go_sem, rc, rf, rg] <;> first | omega | rfl | decide
                  · -- 1: slot 33 := Op.move t6
                    intro ra w' hx hg hs
                    have s6 : ra.eval (.tmp 6) = .slice a6 ws.length c6 := hs.1
                    clear hs
                    have hcw := (hx.cell (World.block_lt_of_cell? _ _ hcp)).trans hcp
                    change Oper.wp _ _ ra w' _ _
                    refine reg.wp_value (v := .slice a6 ws.length c6) (w' := w') ?_ ⟨_, rfl, xk_refl _ _ _ _ _, rfl⟩
                    intro ρ rc rf rg re
                    rw [re] at s6
                    simp [execOp, go_sem, rc, rf, rg, s6] <;> first | omega | rfl | decide
                  · -- 2: slot 34 := Op.call { builtin append, args := #[t32, t33], argTypes := #[27, 27] }
                    intro ra w' hx hg hs
                    have s32 : ∃ g, (ra.eval (.tmp 32)) = .slice (some ⟨g, 0, none⟩) 0 0 ∧ wr.heap.size ≤ g ∧ w'.heap[g]? = some (.cells #[] 9 (0, 0)) := hs.1
                    have s33 : ra.eval (.tmp 33) = .slice a6 ws.length c6 := hs.2.1
                    clear hs
                    have hcw := (hx.cell (World.block_lt_of_cell? _ _ hcp)).trans hcp
                    change Oper.wp _ _ ra w' _ _
                    obtain ⟨g, hv, hg1, hg2⟩ := s32
                    have hAT : SRow w' w.heap.size (.slice a6 ws.length c6) ws := HH.out.2.1.below hx
                    obtain ⟨v2, w2, hrun, hown, hext⟩ := app_all w' g wr.heap.size w.heap.size hg2 hg1 a6 _ c6 ws hAT (by omega)
                    refine reg.wp_value (v := v2) (w' := w2) (reg.runs_append rfl rfl hv s33 hrun) ⟨_, rfl, xk_ext hx.size hext, hown⟩
                  · -- 3: slot 35 := Op.move t7
                    intro ra w' hx hg hs
                    have s7 : ra.eval (.tmp 7) = .slice (some ⟨g7, 0, none⟩) ps.length c7 := hs.1
                    clear hs
                    have hcw := (hx.cell (World.block_lt_of_cell? _ _ hcp)).trans hcp
                    change Oper.wp _ _ ra w' _ _
                    refine reg.wp_value (v := .slice (some ⟨g7, 0, none⟩) ps.length c7) (w' := w') ?_ ⟨_, rfl, xk_refl _ _ _ _ _, rfl⟩
                    intro ρ rc rf rg re
                    rw [re] at s7
                    simp [execOp, go_sem, rc, rf, rg, s7] <;> first | omega | rfl | decide
                  · -- 4: slot 36 := Op.move t8
                    intro ra w' hx hg hs
                    have s8 : ra.eval (.tmp 8) = .int .i64 j := hs.1
                    clear hs
                    have hcw := (hx.cell (World.block_lt_of_cell? _ _ hcp)).trans hcp
                    change Oper.wp _ _ ra w' _ _
                    refine reg.wp_value (v := .int .i64 j) (w' := w') ?_ ⟨_, rfl, xk_refl _ _ _ _ _, rfl⟩
                    intro ρ rc rf rg re
                    rw [re] at s8
                    simp [execOp, go_sem, rc, rf, rg, s8] <;> first | omega | rfl | decide
                  · -- 5: slot 37 := Op.indexAddr 27 t35 t36
                    intro ra w' hx hg hs
                    have s35 : ra.eval (.tmp 35) = .slice (some ⟨g7, 0, none⟩) ps.length c7 := hs.1
                    have s36 : ra.eval (.tmp 36) = .int .i64 j := hs.2.1
                    clear hs
                    have hcw := (hx.cell (World.block_lt_of_cell? _ _ hcp)).trans hcp
                    change Oper.wp _ _ ra w' _ _
                    refine reg.wp_value (v := .pointer (some ⟨g7, j, none⟩)) (w' := w') ?_ ⟨_, rfl, xk_refl _ _ _ _ _, rfl⟩
                    intro ρ rc rf rg re
                    rw [re] at s35 s36
                    simp [execOp, go_sem, rc, rf, rg, s35, s36] <;> first | omega | rfl | decide
                  · -- 6: slot 38 := Op.load 9 t37
                    intro ra w' hx hg hs
                    have s37 : ra.eval (.tmp 37) = .pointer (some ⟨g7, j, none⟩) := hs.1
                    clear hs
                    have hcw := (hx.cell (World.block_lt_of_cell? _ _ hcp)).trans hcp
                    change Oper.wp _ _ ra w' _ _
                    refine reg.wp_value (v := sv p) (w' := w') ?_ ⟨_, rfl, xk_refl _ _ _ _ _, rfl⟩
                    intro ρ rc rf rg re
                    rw [re] at s37
                    simp [execOp, go_sem, rc, rf, rg, s37, hcw] <;> first | omega | rfl | decide
                  · -- 7: slot 39 := Op.buildSlice 27 1 #[(0, t38)]
                    intro ra w' hx hg hs
                    have s38 : ra.eval (.tmp 38) = sv p := hs.1
                    clear hs
                    have hcw := (hx.cell (World.block_lt_of_cell? _ _ hcp)).trans hcp
                    change Oper.wp _ _ ra w' _ _
                    refine reg.wp_value (v := .slice (some ⟨w'.heap.size, 0, none⟩) 1 1) (w' := w'.alloc (.cells #[sv p] 9 (0, 0))) ?_ ⟨_, rfl, xk_ext hx.size ((Below.refl _ _).alloc (Nat.le_refl _) _), _, rfl, hx.size, blk_new _ _⟩
                    intro ρ rc rf rg re
                    rw [re] at s38
                    simp [execOp, go_sem, rc, rf, rg, s38] <;> first | omega | rfl | decide
                  · -- 8: slot 40 := Op.call { builtin append, args := #[t34, t39], argTypes := #[27, 27] }
                    intro ra w' hx hg hs
                    have s34 : SRow w' wr.heap.size (ra.eval (.tmp 34)) ws := hs.1
                    have s39 : ∃ g, (ra.eval (.tmp 39)) = .slice (some ⟨g, 0, none⟩) 1 1 ∧ wr.heap.size ≤ g ∧ w'.heap[g]? = some (.cells #[sv p] 9 (0, 0)) := hs.2.1
                    clear hs
                    have hcw := (hx.cell (World.block_lt_of_cell? _ _ hcp)).trans hcp
                    change Oper.wp _ _ ra w' _ _
                    obtain ⟨g, hv, hg1, hg2⟩ := s39
                    obtain ⟨v2, w2, hrun, hown, hext⟩ := app_one w' wr.heap.size g _ ws p s34 hg2 hx.size (by omega)
                    refine reg.wp_value (v := v2) (w' := w2) (reg.runs_append rfl rfl rfl hv hrun) ⟨_, rfl, hext, hown⟩
                  · -- 9: slot 6 := Op.assign t40
                    intro ra w' hx hg hs
                    have s40 : SRow w' wr.heap.size (ra.eval (.tmp 40)) (ws ++ [p]) := hs.1
                    clear hs
                    have hcw := (hx.cell (World.block_lt_of_cell? _ _ hcp)).trans hcp
                    change Oper.wp _ _ ra w' _ _
                    refine reg.wp_value (v := ra.eval (.tmp 40)) (w' := w') ?_ ⟨_, rfl, xk_refl _ _ _ _ _, s40⟩
                    intro ρ rc rf rg re
                    rw [re]
                    simp [execOp, go_sem]
                intro rV w6 hx6 hf
                have ve0 := hf 0 (by decide)
                have ve1 : rV 1 = .slice a6 ws.length c6 := hf 1 (by decide)
                have ve2 := hf 2 (by decide)
                have ve3 : rV 3 = .slice (some ⟨g7, 0, none⟩) ps.length c7 := hf 3 (by decide)
                have ve4 : rV 4 = .int .i64 j := hf 4 (by decide)
                have ve5 : rV 5 = .pointer (some ⟨g7, j, none⟩) := hf 5 (by decide)
                have ve6 : rV 6 = sv p := hf 6 (by decide)
                have ve7 := hf 7 (by decide)
                have ve8 := hf 8 (by decide)
                have ve9 := hf 9 (by decide)
                clear hf
                simp only [List.zipIdx_cons, List.zipIdx_nil, List.foldl_cons, List.foldl_nil, Act.put, Nat.reduceAdd, List.setIfInBounds_toArray, List.set_cons_succ, List.set_cons_zero, ve1, ve3, ve4, ve5, ve6]
                clear ve1 ve3 ve4 ve5 ve6
                generalize rV 0 = v0 at *
                generalize rV 2 = v2 at *
                generalize rV 7 = v7 at *
                generalize rV 8 = v8 at *
                generalize rV 9 = v9 at *
                clear rV
                obtain ⟨a9, c9, rfl⟩ := own_slice ve9
                have HNX : Hid (SRow w6 w.heap.size (.slice a9 (ws ++ [p]).length c9) (ws ++ [p]) ∧ Below w3.heap.size w3 w6) := ⟨own_base ve9 HWB.out.size, HH.out.2.2.trans (hx6.mono HH.out.2.2.size)⟩
                clear hx6 ve9 ve0 ve2 ve7 ve8
                go_wp2_with fail
                go_roundw
                case rel => exact ⟨j + 1, a9, _, c9, _, by omega, by go_num, rfl, HST.out, HNX.out⟩
                case measure => simp [intOf]; omega
              · obtain ⟨er, her⟩ : ∃ er : Int, nameE p = er := ⟨_, rfl⟩
                have HST : Hid (R = ([], 401)) := by
                  have h1 : wayW st (ps.take (j + 1)) = none := by rw [HSN.out, stepW, if_neg hx1, if_neg hx2, if_pos hn]
                  have h2 := wayW_none (ps.drop (j + 1)) h1
                  rw [List.take_append_drop] at h2
                  rw [Hid, HCR.out, h2]
                rw [her] at HN hn
                have hne : (er != 0) = true := by rw [bne_iff_ne]; exact hn
                clear hx1 hx2 hn HSN her
                go_wp2_with fail
                (with_reducible refine (HN.out _).mono ?_); rintro e w5 ⟨rfl, rfl⟩
                go_wp2_with fail
                first | go_ret | go_ret2
                exact ⟨by rw [HST.out]; rfl, HWB.out⟩
      · obtain rfl : j = ps.length := by omega
        have hway := HH.out.1
        rw [List.take_length] at hway
        have hg := HGW.out ws hway
        have hr := HCR.out
        rw [hway] at hr
        have HG := Lib.hid hg
        have HRR := Lib.hid hr
        clear hway hg hr HCR HGW
        by_cases h8 : 8 < ws.length
        · have HST : Hid (R = ([], 402)) := by rw [Hid, HRR.out]; exact if_pos h8
          have d8 : decide ((8 : Int) < (ws.length : Int)) = true := decide_eq_true (by omega)
          go_wp2_with fail
          first | go_ret | go_ret2
          exact ⟨by rw [HST.out]; rfl, HWB.out⟩
        · have d8 : decide ((8 : Int) < (ws.length : Int)) = false := decide_eq_false (by omega)
          have HJ : Hid ((joinL ws).length ≤ 136) := by
            have := inter_len 16 ws (fun q hq => (good_no (HG.out q hq)).2.2.2.2)
            rw [Hid]; omega
          have HR2 : Hid (R = if (joinL ws).length > 140 then ([], 403) else (joinL ws, 0)) := by rw [Hid, HRR.out]; exact if_neg (by omega)
          have HRW := Lib.hid HH.out.2.1
          clear HRR HH
          go_wp2_with fail
          go_loopw [9, 10] (fun o i wx => ∃ k : Nat, k ≤ ws.length ∧ i = .int .i64 k ∧ o = sv (joinL (ws.take k)) ∧ Hid (wr = wx)) (fun _ i _ => ws.length - (intOf i).toNat)
          case atStart => exact ⟨0, by omega, rfl, by rw [List.take_zero, joinL_nil], rfl⟩
          case round =>
            obtain ⟨k, hk, rfl, rfl, HW⟩ := hrel
            obtain rfl := HW.out
            by_cases hlt2 : k < ws.length
            · rcases HRW.out.cells with ⟨-, hw⟩ | ⟨g, c', hv', hgl, hc1, hc2, hcell⟩
              · rw [hw] at hlt2; simp at hlt2
              · simp only [Value.slice.injEq] at hv'
                obtain ⟨rfl, -, rfl⟩ := hv'
                obtain ⟨p, hp⟩ : ∃ p, ws[k]? = some p := ⟨_, List.getElem?_eq_getElem hlt2⟩
                have hcp := hcell k p hp
                have hki : (k : Int) < ws.length := by omega
                have hpl := (good_no (HG.out p (List.mem_of_getElem? hp))).2.2.2.2
                have hjl := join_take_le ws k
                have HJO : Hid (∀ W : World, Calls Try.prog 20 #[sv (joinL (ws.take k)), sv p] W fun e w' => e = .returned (sv (joinL (ws.take (k + 1)))) ∧ W = w') := fun W => by
                  have hj := HJ.out
                  have := rJoin_any (joinL (ws.take k)) p W (by omega)
                  rw [join_step ws k p HG.out hp] at this; exact this
                unfold maxLen at hc2
                clear hcell hp hjl hpl
                generalize joinL (ws.take k) = t1 at *
                generalize hM2 : joinL (ws.take (k + 1)) = t2 at *
                have HM2 := Lib.hid hM2
                clear hM2
                go_wp2_with fail
                (with_reducible refine (HJO.out _).mono ?_); rintro e w5 ⟨rfl, rfl⟩
                go_wp2_with fail
                go_roundw
                case rel => exact ⟨k + 1, by omega, by go_num, by rw [HM2.out], by first | exact rfl | trivial⟩
                case measure => simp [intOf]; omega
            · obtain rfl : k = ws.length := by omega
              rw [List.take_length]
              have hJ := HJ.out
              have hR : R = (joinL ws, 0) := by rw [HR2.out, if_neg (by omega)]
              have HR3 := Lib.hid hR
              have zj := str_size (joinL ws)
              have d140 : decide ((140 : Int) < ((joinL ws).length : Int)) = false := decide_eq_false (by omega)
              clear hR HR2 HJ
              generalize joinL ws = t1 at *
              go_wp2_with fail
              first | go_ret | go_ret2
              exact ⟨by rw [HR3.out]; rfl, HWB.out⟩
end Go.Proofs.Ytfmalomhmijciaa.path
