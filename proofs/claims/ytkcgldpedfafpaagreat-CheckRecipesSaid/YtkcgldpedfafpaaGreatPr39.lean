/-
  Proved: plain facts on clean paths: a way of good names joined and cut again; what Clean gives is clean and stays so. No program is in sight.
  Proved: what the document's own Name, Join, Below give; that SameTexts says true of equal rows. Conditions: as each theorem says.
  Proved: what the document's own Cut and Parts give; SameTexts, SpoilTexts. Conditions: as each theorem says.
  Proved: what the document's own IsClean and Below give. Conditions: as each theorem says.
  Proved: what the document's own Clean gives. Conditions: as each theorem says.
  Proved: the statement PathTexts, as a contract, for texts up to a bound. Conditions: as each theorem says.
-/
import Derived.Test.YtkcgldpedfafpaaGreatPr30
import Derived.Test.YtkcgldpedfafpaaGreatPr6
import Derived.ArgAppend
import Derived.Deep.Upon
namespace Go.Proofs.YtkcgldpedfafpaaGreat.path
set_option linter.unusedVariables false

theorem good_no {p : List UInt8} (h : nameE p = 0) : p ≠ [] ∧ (47 : UInt8) ∉ p ∧ p ≠ [46] ∧ p ≠ [46, 46] ∧ p.length ≤ 16 := by
 unfold nameE at h
 split at h
 ·cases h
 ·rename_i h0
  split at h
  ·cases h
  ·rename_i h1
   refine ⟨h0, fun e => h1 (.inr (.inr (.inr (.inl e)))), fun e => h1 (.inr (.inl e)), fun e => h1 (.inr (.inr (.inl e))), ?_⟩
   rcases Nat.lt_or_ge 16 p.length with e | e
   ·exact absurd (.inl e) h1
   ·exact e
theorem joinL_cons (p q : List UInt8) (ws : List (List UInt8)) : joinL (p :: q :: ws) = p ++ 47 :: joinL (q :: ws) := by
 simp [joinL, List.intercalate, List.intersperse]
theorem joinL_one (p : List UInt8) : joinL [p] = p := by simp [joinL, List.intercalate]
theorem joinL_nil : joinL [] = [] := by simp [joinL, List.intercalate]
theorem joinL_snoc (ws : List (List UInt8)) (p : List UInt8) (h : ws ≠ []) : joinL (ws ++ [p]) = joinL ws ++ 47 :: p := by
 induction ws with
 | nil => exact absurd rfl h
 | cons q qs ih =>
  cases qs with
  | nil => rw [List.cons_append, List.nil_append, joinL_cons, joinL_one, joinL_one]
  | cons r rs => rw [List.cons_append, List.cons_append, joinL_cons, ← List.cons_append, ih (by simp), joinL_cons, List.append_assoc, List.cons_append]
theorem joinL_ne {ws : List (List UInt8)} (hg : ∀ p ∈ ws, nameE p = 0) (h : ws ≠ []) : joinL ws ≠ [] := by
 cases ws with
 | nil => exact absurd rfl h
 | cons p ps =>
  have := (good_no (hg p (List.mem_cons_self ..))).1
  cases ps with
  | nil => rw [joinL_one]; exact this
  | cons q qs => rw [joinL_cons]; simp [this]
/-- A way keeps to good names. -/
theorem wayW_good (st ps ws : List (List UInt8)) (h : wayW st ps = some ws) (hst : ∀ p ∈ st, nameE p = 0) : ∀ p ∈ ws, nameE p = 0 := by
 induction ps generalizing st with
 | nil => simp [wayW] at h; subst h; exact hst
 | cons p ps ih =>
  simp only [wayW] at h
  split at h
  ·cases h
  ·rename_i v hv
   refine ih v h ?_
   unfold stepW at hv
   split at hv
   ·cases hv; exact hst
   ·split at hv
    ·cases hv; exact fun q hq => hst q ((List.dropLast_sublist _).subset hq)
    ·split at hv
     ·cases hv
     ·rename_i hn
      cases hv
      intro q hq
      rcases List.mem_append.1 hq with hq | hq
      ·exact hst q hq
      ·rw [List.mem_singleton] at hq; rw [hq]; exact Classical.not_not.1 hn
theorem start_good (cwd s : List UInt8) (h : cleanB cwd = true) : ∀ p ∈ startW cwd s, nameE p = 0 := by
 unfold startW
 split
 ·intro p hp; cases hp
 ·unfold partsL
  split
  ·intro p hp; cases hp
  ·rename_i hne
   simp only [cleanB, Bool.or_eq_true, decide_eq_true_eq, Bool.and_eq_true] at h
   exact (h.resolve_left hne).1.1
theorem join_take_le (ws : List (List UInt8)) (n : Nat) : (joinL (ws.take n)).length ≤ (joinL ws).length := by
 induction n generalizing ws with
 | zero => simp [joinL_nil]
 | succ n ih =>
  cases ws with
  | nil => simp
  | cons p ps =>
   cases ps with
   | nil => simp
   | cons q qs =>
    have := ih (q :: qs)
    cases n with
    | zero => simp [joinL_one, joinL_cons]
    | succ n =>
     rw [List.take_succ_cons, List.take_succ_cons, joinL_cons, joinL_cons]
     rw [List.take_succ_cons] at this
     simp at this ⊢
     omega
theorem join_step (ws : List (List UInt8)) (i : Nat) (p : List UInt8) (hg : ∀ p ∈ ws, nameE p = 0) (h : ws[i]? = some p) : pJoin (joinL (ws.take i)) p = joinL (ws.take (i + 1)) := by
 have hp : p ∈ ws := List.mem_of_getElem? h
 have hpn := (good_no (hg p hp)).1
 have ht : ws.take (i + 1) = ws.take i ++ [p] := by rw [List.take_add_one, h]; rfl
 rw [ht]
 by_cases h0 : ws.take i = []
 ·rw [h0]; simp [pJoin, joinL_nil, joinL_one]
 ·have hne := joinL_ne (fun q hq => hg q ((List.take_sublist _ _).subset hq)) h0
  rw [joinL_snoc _ _ h0, pJoin, if_neg (fun h => h.elim hne hpn)]
end Go.Proofs.YtkcgldpedfafpaaGreat.path

namespace Go.Proofs.YtkcgldpedfafpaaGreat.path
open Go.RowKit Go.Shelf
open heap
set_option linter.unusedVariables false

theorem name_eq (l : List UInt8) (h0 : l ≠ []) (b : Bool) (h : b = true ↔ ((l = [46] ∨ l = [46, 46] ∨ 16 < l.length) ∨ (47 : UInt8) ∈ l ∨ (0 : UInt8) ∈ l)) : nameE l = if b = true then 401 else 0 := by
 rw [nameE, if_neg h0]
 by_cases hb : b = true
 ·rw [if_pos hb, if_pos]
  rcases h.1 hb with (h | h | h) | h | h
  ·exact .inr (.inl h)
  ·exact .inr (.inr (.inl h))
  ·exact .inl h
  ·exact .inr (.inr (.inr (.inl h)))
  ·exact .inr (.inr (.inr (.inr h)))
 ·rw [if_neg hb, if_neg]
  intro h'
  apply hb
  rw [h]
  rcases h' with h | h | h | h | h
  ·exact .inl (.inr (.inr h))
  ·exact .inl (.inl h)
  ·exact .inl (.inr (.inl h))
  ·exact .inr (.inl h)
  ·exact .inr (.inr h)
theorem mem_take_succ (l : List UInt8) (j : Nat) (x : UInt8) (hj : j < l.length) : x ∈ l.take (j + 1) ↔ x ∈ l.take j ∨ l[j] = x := by
 rw [List.take_add_one, List.getElem?_eq_getElem hj, List.mem_append, Option.toList_some, List.mem_singleton, eq_comm (a := x)]
set_option maxRecDepth 100000 in
set_option maxHeartbeats 1000000 in
theorem rName_any (l : List UInt8) (w : World) (hs : l.length ≤ 9223372036854775806) :
  Calls Tryz.prog 67 #[sv l] w fun e w' => e = .returned (.int .i64 (nameE l)) ∧ w = w' := by
 have z := str_size l
 by_cases h0 : l = []
 ·subst h0
  go_enter Tryz.func67, Tryz.ntmps67
  go_wp2
  go_ret
  exact ⟨rfl, rfl⟩
 ·have b0 : l.isEmpty = false := by cases l <;> simp_all
  have b0' : (l == []) = false := by rw [beq_eq_false_iff_ne]; exact h0
  have HN := Lib.hid (name_eq l h0)
  obtain ⟨P, hP⟩ : ∃ P : Prop, P = (l = [46] ∨ l = [46, 46] ∨ 16 < l.length) := ⟨_, rfl⟩
  rw [← hP] at HN
  have hcs : ∃ bb : Bool, (bb = true ↔ P) ∧ (((l == [46]) = true ∧ bb = true) ∨ ((l == [46]) = false ∧ (l == [46, 46]) = true ∧ bb = true) ∨ ((l == [46]) = false ∧ (l == [46, 46]) = false ∧ decide ((16 : Int) < (l.length : Int)) = true ∧ bb = true) ∨ ((l == [46]) = false ∧ (l == [46, 46]) = false ∧ decide ((16 : Int) < (l.length : Int)) = false ∧ bb = false)) := by
   refine ⟨decide (l = [46] ∨ l = [46, 46] ∨ 16 < l.length), by rw [hP, decide_eq_true_iff], ?_⟩
   by_cases h1 : l = [46]
   ·exact .inl ⟨by simp [h1], by simp [h1]⟩
   ·by_cases h2 : l = [46, 46]
    ·exact .inr (.inl ⟨by simp [h2], by simp [h2], by simp [h2]⟩)
    ·by_cases h3 : 16 < l.length
     ·exact .inr (.inr (.inl ⟨by simp [h1], by simp [h2], decide_eq_true (by omega), by simp [h3]⟩))
     ·exact .inr (.inr (.inr ⟨by simp [h1], by simp [h2], decide_eq_false (by omega), by simp [h1, h2]; omega⟩))
  obtain ⟨bb, hbb, hcs⟩ := hcs
  have HB := Lib.hid hbb
  clear hP hbb h0
  rcases hcs with ⟨b1, rfl⟩ | ⟨b1, b2, rfl⟩ | ⟨b1, b2, h3, rfl⟩ | ⟨b1, b2, h3, rfl⟩
  all_goals
   go_enter Tryz.func67, Tryz.ntmps67
   go_wp2_with fail
   go_loopw [3, 4] (fun b i wr => ∃ (j : Nat) (bv : Bool), j ≤ l.length ∧ b = .bool bv ∧ i = .int .i64 j ∧ Hid (bv = true ↔ (P ∨ (47 : UInt8) ∈ l.take j ∨ (0 : UInt8) ∈ l.take j)) ∧ Hid (w = wr)) (fun _ i _ => l.length - (intOf i).toNat)
   case atStart => exact ⟨0, _, by omega, rfl, rfl, by rw [Hid]; simpa using HB.out, rfl⟩
   case round =>
    obtain ⟨j, bv, hj, rfl, rfl, HV, HW⟩ := hrel
    by_cases hlt : j < l.length
    ·have hji : (j : Int) < l.length := by omega
     have hz : j < (⟨l.toArray⟩ : ByteArray).size := by rw [z]; exact hlt
     obtain ⟨x, hx⟩ : ∃ x : UInt8, (⟨l.toArray⟩ : ByteArray)[j]'hz = x := ⟨_, rfl⟩
     have HX : Hid (l[j]'hlt = x) := hx
     have HM47 := Lib.hid (mem_take_succ l j 47 hlt)
     have HM0 := Lib.hid (mem_take_succ l j 0 hlt)
     cases bv with
     | true =>
      have HV2 : Hid (true = true ↔ (P ∨ (47 : UInt8) ∈ l.take (j + 1) ∨ (0 : UInt8) ∈ l.take (j + 1))) := by
       rw [Hid, HM47.out, HM0.out]
       refine ⟨fun _ => ?_, fun _ => rfl⟩
       rcases HV.out.1 rfl with h | h | h
       ·exact .inl h
       ·exact .inr (.inl (.inl h))
       ·exact .inr (.inr (.inl h))
      clear HM47 HM0 HV
      go_wp2_with fail
      go_roundw
      case rel => exact ⟨j + 1, true, by omega, rfl, by go_num, HV2, HW⟩
      case measure => simp [intOf]; omega
     | false =>
      by_cases e1 : x = 47
      ·have HV2 : Hid (true = true ↔ (P ∨ (47 : UInt8) ∈ l.take (j + 1) ∨ (0 : UInt8) ∈ l.take (j + 1))) := by
        rw [Hid, HM47.out, HM0.out]
        exact ⟨fun _ => .inr (.inl (.inr (HX.out.trans e1))), fun _ => rfl⟩
       subst e1
       clear HM47 HM0 HV
       go_wp2_with fail
       go_roundw
       case rel => exact ⟨j + 1, true, by omega, rfl, by go_num, HV2, HW⟩
       case measure => simp [intOf]; omega
      ·by_cases e2 : x = 0
       ·have HV2 : Hid (true = true ↔ (P ∨ (47 : UInt8) ∈ l.take (j + 1) ∨ (0 : UInt8) ∈ l.take (j + 1))) := by
         rw [Hid, HM47.out, HM0.out]
         exact ⟨fun _ => .inr (.inr (.inr (HX.out.trans e2))), fun _ => rfl⟩
        subst e2
        clear HM47 HM0 HV e1
        go_wp2_with fail
        go_roundw
        case rel => exact ⟨j + 1, true, by omega, rfl, by go_num, HV2, HW⟩
        case measure => simp [intOf]; omega
       ·have HV2 : Hid (false = true ↔ (P ∨ (47 : UInt8) ∈ l.take (j + 1) ∨ (0 : UInt8) ∈ l.take (j + 1))) := by
         rw [Hid, HM47.out, HM0.out, HX.out]
         rw [HV.out]
         refine ⟨fun h => ?_, fun h => ?_⟩
         ·rcases h with h | h | h
          ·exact .inl h
          ·exact .inr (.inl (.inl h))
          ·exact .inr (.inr (.inl h))
         ·rcases h with h | (h | h) | h | h
          ·exact .inl h
          ·exact .inr (.inl h)
          ·exact absurd h e1
          ·exact .inr (.inr h)
          ·exact absurd h e2
        obtain ⟨c, hc⟩ : ∃ c : Nat, x.toNat = c := ⟨_, rfl⟩
        have n1 : c ≠ 47 := fun h => e1 (UInt8.toNat_inj.1 (hc.trans h))
        have n2 : c ≠ 0 := fun h => e2 (UInt8.toNat_inj.1 (hc.trans h))
        have n3 : ((c : Int) == 47) = false := by rw [beq_eq_false_iff_ne]; omega
        have n4 : ((c : Int) == 0) = false := by rw [beq_eq_false_iff_ne]; omega
        clear HM47 HM0 HV e1 e2
        go_wp2_with fail
        go_roundw
        case rel => exact ⟨j + 1, false, by omega, rfl, by go_num, HV2, HW⟩
        case measure => simp [intOf]; omega
    ·obtain rfl : j = l.length := by omega
     have hv := HV.out
     rw [List.take_length] at hv
     have hnm := HN.out bv hv
     have HNM := Lib.hid hnm
     clear hv hnm HV
     cases bv with
     | true =>
      go_wp2_with fail
      go_ret
      exact ⟨by rw [HNM.out]; rfl, HW.out⟩
     | false =>
      go_wp2_with fail
      go_ret
      exact ⟨by rw [HNM.out]; rfl, HW.out⟩
set_option maxRecDepth 100000 in
theorem rJoin_any (a b : List UInt8) (w : World) (h : a.length + b.length ≤ 9223372036854775800) :
  Calls Tryz.prog 68 #[sv a, sv b] w fun e w' => e = .returned (sv (pJoin a b)) ∧ w = w' := by
 have za := str_size a
 have zb := str_size b
 by_cases h0 : a = []
 ·have HV : Hid (pJoin a b = b) := by simp [Hid, pJoin, h0]
  rw [HV.out]
  subst h0
  go_enter Tryz.func68, Tryz.ntmps68
  go_wp2
  go_ret
  exact ⟨rfl, rfl⟩
 ·have b0 : a.isEmpty = false := by cases a <;> simp_all
  have b0' : (a == []) = false := by rw [beq_eq_false_iff_ne]; exact h0
  by_cases h1 : b = []
  ·have HV : Hid (pJoin a b = a) := by simp [Hid, pJoin, h1]
   rw [HV.out]
   subst h1
   clear h0
   go_enter Tryz.func68, Tryz.ntmps68
   go_wp2
   go_ret
   exact ⟨rfl, rfl⟩
  ·have b1 : b.isEmpty = false := by cases b <;> simp_all
   have b1' : (b == []) = false := by rw [beq_eq_false_iff_ne]; exact h1
   have HV : Hid (pJoin a b = a ++ 47 :: b) := by simp [Hid, pJoin, h0, h1]
   rw [HV.out]
   have j1 : (⟨a.toArray⟩ : ByteArray) ++ ⟨#[47]⟩ = ⟨(a ++ [47]).toArray⟩ := join_s a [47]
   have j2 : (⟨(a ++ [47]).toArray⟩ : ByteArray) ++ ⟨b.toArray⟩ = ⟨(a ++ 47 :: b).toArray⟩ := by rw [join_s, List.append_assoc]; rfl
   have z1 : (⟨(a ++ [47]).toArray⟩ : ByteArray).size = a.length + 1 := by rw [str_size]; simp
   generalize a ++ [47] = a1 at *
   generalize a ++ 47 :: b = a2 at *
   clear h0 h1
   go_enter Tryz.func68, Tryz.ntmps68
   go_wp2
   go_ret
   exact ⟨rfl, rfl⟩
end Go.Proofs.YtkcgldpedfafpaaGreat.path

namespace Go.Proofs.YtkcgldpedfafpaaGreat.path
open Go.RowKit Go.Shelf
open heap
set_option linter.unusedVariables false

theorem cut_str (l : List UInt8) (f j : Nat) : (⟨l.toArray⟩ : ByteArray).extract f j = ⟨((l.drop f).take (j - f)).toArray⟩ := by
 apply ByteArray.ext
 rw [ByteArray.data_extract]
 simp [List.extract_eq_take_drop]
theorem cut_more (l : List UInt8) (f j : Nat) (hf : f ≤ j) (hj : j < l.length) : (l.drop f).take (j + 1 - f) = (l.drop f).take (j - f) ++ [l[j]] := by
 have e : j + 1 - f = (j - f) + 1 := by omega
 rw [e, List.take_add_one, List.getElem?_drop, show f + (j - f) = j by omega, List.getElem?_eq_getElem hj]
 rfl
theorem cut_here (l : List UInt8) (f j : Nat) (hf : f ≤ j) (hj : j < l.length) (h47 : l[j] = 47) (hn : (47 : UInt8) ∉ (l.drop f).take (j - f)) : piecesL (l.drop f) = ((l.drop f).take (j - f)) :: piecesL (l.drop (j + 1)) := by
 have e : l.drop f = (l.drop f).take (j - f) ++ 47 :: l.drop (j + 1) := by
  conv => lhs; rw [← List.take_append_drop (j - f) (l.drop f)]
  rw [List.drop_drop, show f + (j - f) = j by omega, List.drop_eq_getElem_cons hj, h47]
 conv => lhs; rw [e]
 exact pieces_yes _ _ hn
structure CutI (l : List UInt8) (j f : Nat) (ps : List (List UInt8)) : Prop where
 jl : j ≤ l.length
 fj : f ≤ j
 pc : piecesL l = ps ++ piecesL (l.drop f)
 no : (47 : UInt8) ∉ (l.drop f).take (j - f)
set_option maxRecDepth 100000 in
set_option maxHeartbeats 1000000 in
theorem rCut_any (l : List UInt8) (w : World) (hl : l.length ≤ 2000000) :
  Calls Tryz.prog 66 #[sv l] w fun e w' => ∃ v, e = .returned v ∧ SRow w' w.heap.size v (piecesL l) ∧ Below w.heap.size w w' := by
 have z := str_size l
 have HBD := Lib.hid (pieces_bd l)
 go_enter Tryz.func66, Tryz.ntmps66
 go_wp2_with fail
 go_loopw [3, 4, 5] (fun o fr i wr => ∃ (j f : Nat) (ps : List (List UInt8)) (a : Option Addr) (n c : Nat), j ≤ l.length + 1 ∧ i = .int .i64 j ∧ fr = .int .i64 f ∧ o = .slice a n c ∧ Hid (CutI l j f ps ∨ (j = l.length + 1 ∧ ps = piecesL l)) ∧ Hid (SRow wr w.heap.size (.slice a n c) ps ∧ Below w.heap.size w wr)) (fun _ _ i _ => l.length + 1 - (intOf i).toNat)
 case atStart => exact ⟨0, 0, [], none, 0, 0, by omega, rfl, rfl, rfl, .inl ⟨by omega, by omega, by simp, by simp⟩, World.ownsRow_nil _ _ _ _, Below.refl _ _⟩
 case round =>
  obtain ⟨j, f, ps, a, n, c, hj, rfl, rfl, rfl, HC, HR⟩ := hrel
  by_cases hlt : j ≤ l.length
  ·have hci : CutI l j f ps := HC.out.resolve_right (fun h => by omega)
   have hps : ps.length ≤ 2000000 := by
    have h1 := HBD.out.1
    have h2 := congrArg List.length hci.pc
    have h3 : 0 < (piecesL (l.drop f)).length := List.length_pos_iff.2 (piecesL_ne _)
    rw [List.length_append] at h2
    omega
   have hfj := hci.fj
   obtain ⟨seg, hseg⟩ : ∃ seg, seg = (l.drop f).take (j - f) := ⟨_, rfl⟩
   have hex : (⟨l.toArray⟩ : ByteArray).extract f j = ⟨seg.toArray⟩ := by rw [cut_str, hseg]
   have hzj : j ≤ (⟨l.toArray⟩ : ByteArray).size := by rw [z]; exact hlt
   have hsn : n = ps.length := (SRow.drop HR.out.1).1
   obtain ⟨g0, cp, w', hrun, hown, hgr, hlies⟩ := append_s (wr.alloc (.cells #[sv seg] 9)) w.heap.size (.slice a n c) ps.length _ (World.ownsRow.alloc HR.out.1 _) ⟨wr.heap.size, 0, none⟩ 1 1 [sv seg] rfl (fun k u hu => by rw [add0, blk_cell (blk_new wr _)]; simpa using hu) (by simp [Value.oneCell']) (by decide) (by omega) (by have := HR.out.2.size; simp; omega)
   have HRUN := Lib.hid hrun
   have HNEW : Hid (SRow w' w.heap.size (.slice (some ⟨g0, 0, none⟩) (ps.length + 1) cp) (ps ++ [seg]) ∧ Below w.heap.size w w') := by
    refine ⟨by unfold SRow; rw [List.length_append, List.map_append]; exact hown, ?_⟩
    have hlt := World.ownsRow.lt HR.out.1
    have hb := HR.out.2
    refine ⟨hgr.os.trans hb.os, hgr.tape.trans hb.tape, hgr.output.trans hb.output, by have h1 := hgr.size; have h2 := hb.size; simp at h1; omega, fun b hb' => ?_⟩
    have hbs := hb.size
    rw [hgr.block b (by simp; omega) (fun e => by have := (hlt b e.symm).1; omega), Below.heap_alloc _ _ _ (by omega)]
    exact hb.block b hb'
   have HCI := Lib.hid hci
   have HSEG := Lib.hid hseg
   clear hci hrun hown hgr hlies hseg HC
   by_cases hend : j = l.length
   ·subst hend
    have hi2 : ((l.length : Int) == (l.length : Int)) = true := by simp
    have HFIN : Hid (ps ++ [seg] = piecesL l) := by
     have h1 := HCI.out.no
     have e : (l.drop f).take (l.length - f) = l.drop f := by rw [List.take_of_length_le]; simp
     rw [e] at h1
     rw [Hid, HCI.out.pc, pieces_no _ h1, HSEG.out, e]
    go_wp2_with (at_builtin; refine reg.wpList_append rfl rfl rfl rfl rfl HRUN.out ?_)
    go_roundw
    case rel => exact ⟨l.length + 1, l.length + 1, ps ++ [seg], _, _, _, by omega, by go_num, by go_num, rfl, .inr ⟨rfl, HFIN.out⟩, HNEW⟩
    case measure => simp [intOf]
   ·have hjl : j < l.length := by omega
    have hji : ((j : Int) == (l.length : Int)) = false := by rw [beq_eq_false_iff_ne]; omega
    have hz : j < (⟨l.toArray⟩ : ByteArray).size := by rw [z]; exact hjl
    obtain ⟨x, hx⟩ : ∃ x : UInt8, (⟨l.toArray⟩ : ByteArray)[j]'hz = x := ⟨_, rfl⟩
    have HX : Hid (l[j]'hjl = x) := hx
    by_cases e1 : x = 47
    ·have HCN : Hid (CutI l (j + 1) (j + 1) (ps ++ [seg])) := by
      refine ⟨by omega, by omega, ?_, by simp⟩
      rw [HCI.out.pc, cut_here l f j hfj hjl (HX.out.trans e1) HCI.out.no, HSEG.out]
      simp
     subst e1
     go_wp2_with (at_builtin; refine reg.wpList_append rfl rfl rfl rfl rfl HRUN.out ?_)
     go_roundw
     case rel => exact ⟨j + 1, j + 1, ps ++ [seg], _, _, _, by omega, by go_num, by go_num, rfl, .inl HCN.out, HNEW⟩
     case measure => simp [intOf]; omega
    ·have HCN : Hid (CutI l (j + 1) f ps) := by
      refine ⟨by omega, by omega, HCI.out.pc, ?_⟩
      rw [cut_more l f j hfj hjl, HX.out]
      intro hm
      rcases List.mem_append.1 hm with h | h
      ·exact HCI.out.no h
      ·exact e1 (List.mem_singleton.1 h).symm
     obtain ⟨cc, hc⟩ : ∃ c : Nat, x.toNat = c := ⟨_, rfl⟩
     have n1 : cc ≠ 47 := fun h => e1 (UInt8.toNat_inj.1 (hc.trans h))
     have n3 : ((cc : Int) == 47) = false := by rw [beq_eq_false_iff_ne]; omega
     clear e1
     go_wp2_with fail
     go_roundw
     case rel => exact ⟨j + 1, f, ps, _, _, _, by omega, by go_num, rfl, rfl, .inl HCN.out, HR⟩
     case measure => simp [intOf]; omega
  ·obtain rfl : j = l.length + 1 := by omega
   have hps : ps = piecesL l := by
    rcases HC.out with h | h
    ·have := h.jl; omega
    ·exact h.2
   subst hps
   go_wp2_with fail
   go_ret
   exact ⟨_, rfl, HR.out.1, HR.out.2⟩
set_option maxRecDepth 100000 in
theorem rParts_any (l : List UInt8) (w : World) (hl : l.length ≤ 2000000) :
  Calls Tryz.prog 65 #[sv l] w fun e w' => ∃ v, e = .returned v ∧ SRow w' w.heap.size v (partsL l) ∧ Below w.heap.size w w' := by
 by_cases h0 : l = []
 ·subst h0
  go_enter Tryz.func65, Tryz.ntmps65
  go_wp2
  go_ret
  exact ⟨_, rfl, World.ownsRow_nil _ _ _ _, Below.refl _ _⟩
 ·have b0 : l.isEmpty = false := by cases l <;> simp_all
  have b0' : (l == []) = false := by rw [beq_eq_false_iff_ne]; exact h0
  have HC := Lib.hid (fun W : World => rCut_any l W hl)
  have HP : Hid (partsL l = piecesL l) := by rw [Hid, partsL, if_neg h0]
  clear h0
  go_enter Tryz.func65, Tryz.ntmps65
  go_wp2_with fail
  (with_reducible refine (HC.out _).mono ?_); rintro e w1 ⟨v, rfl, hr, hb⟩
  have HR := Lib.hid hr
  have HB := Lib.hid hb
  clear hr hb
  go_wp2_with fail
  go_ret
  exact ⟨_, rfl, by rw [HP.out]; exact HR.out, HB.out⟩
theorem SRow.set {w : World} {base g n c : Nat} {ys : List (List UInt8)} (h : SRow w base (.slice (some ⟨g, 0, none⟩) n c) ys) (j : Nat) (q : List UInt8) : SRow (w.setCell ⟨g, j, none⟩ (sv q)) base (.slice (some ⟨g, 0, none⟩) n c) (ys.set j q) := by
 obtain ⟨hl, ⟨h1, h2⟩ | ⟨g', c', cur, hv, h2, h3, h4, h5, h6, h7⟩⟩ := h
 ·cases h1
 ·simp only [Value.slice.injEq, Option.some.injEq, Addr.mk.injEq] at hv
  obtain ⟨⟨rfl, -, -⟩, rfl, rfl⟩ := hv
  refine ⟨by simp, .inr ⟨g, c, cur.setIfInBounds j (sv q), by simp, h2, blk_set h3 j _, by simpa using h4, h5, by simpa using h6, ?_⟩⟩
  rw [List.length_set, Array.toList_setIfInBounds, List.take_set, h7, List.map_set]
end Go.Proofs.YtkcgldpedfafpaaGreat.path

namespace Go.Proofs.YtkcgldpedfafpaaGreat.path
open Go.RowKit Go.Shelf
open heap
set_option linter.unusedVariables false

theorem clean_parts (l : List UInt8) : cleanB l = true ↔ (partsL l).length ≤ 8 ∧ l.length ≤ 140 ∧ ∀ p ∈ partsL l, nameE p = 0 := by
 unfold cleanB partsL
 by_cases h : l = []
 ·simp [h]
 ·simp only [h, decide_false, Bool.false_or, Bool.and_eq_true, decide_eq_true_eq, if_false]
  exact ⟨fun h => ⟨h.1.2, h.2, h.1.1⟩, fun h => ⟨⟨h.2.2, h.1⟩, h.2.1⟩⟩
theorem parts_bd (l : List UInt8) : (partsL l).length ≤ l.length + 1 ∧ ∀ p ∈ partsL l, p.length ≤ l.length := by
 unfold partsL
 split
 ·simp
 ·exact ⟨(pieces_bd l).1, fun p hp => ((pieces_bd l).2 p hp).1⟩
set_option maxRecDepth 100000 in
set_option maxHeartbeats 1000000 in
theorem rIsClean_any (l : List UInt8) (w : World) (hl : l.length ≤ 2000000) :
  Calls Tryz.prog 64 #[sv l] w fun e w' => e = .returned (.bool (cleanB l)) ∧ Below w.heap.size w w' := by
 have z := str_size l
 have HP := Lib.hid (fun W : World => rParts_any l W hl)
 have HCB := Lib.hid (clean_parts l)
 have HBD := Lib.hid (parts_bd l)
 generalize hcb : cleanB l = cb at *
 generalize hxs : partsL l = xs at *
 clear hcb hxs
 go_enter Tryz.func64, Tryz.ntmps64
 go_wp2_with fail
 (with_reducible refine (HP.out _).mono ?_); rintro e w1 ⟨v, rfl, hr, hb⟩
 obtain ⟨a1, c1, rfl⟩ := own_slice hr
 have HR := Lib.hid hr
 have HB := Lib.hid hb
 have hxl : xs.length ≤ 2000001 := by have := HBD.out.1; omega
 clear hr hb HP
 by_cases h8 : 8 < xs.length
 ·obtain rfl : cb = false := by
   cases cb with
   | false => rfl
   | true => have := (HCB.out.1 rfl).1; omega
  have d8 : decide ((8 : Int) < (xs.length : Int)) = true := decide_eq_true (by omega)
  go_wp2_with fail
  go_ret
  exact ⟨rfl, HB.out⟩
 ·have d8 : decide ((8 : Int) < (xs.length : Int)) = false := decide_eq_false (by omega)
  by_cases h140 : 140 < l.length
  ·obtain rfl : cb = false := by
    cases cb with
    | false => rfl
    | true => have := (HCB.out.1 rfl).2.1; omega
   have d140 : decide ((140 : Int) < (l.length : Int)) = true := decide_eq_true (by omega)
   go_wp2_with fail
   go_ret
   exact ⟨rfl, HB.out⟩
  ·have d140 : decide ((140 : Int) < (l.length : Int)) = false := decide_eq_false (by omega)
   go_wp2_with fail
   go_loopw [4] (fun i wr => ∃ j : Nat, j ≤ xs.length ∧ i = .int .i64 j ∧ Hid ((∀ k q, k < j → xs[k]? = some q → nameE q = 0) ∧ w1 = wr)) (fun i _ => xs.length - (intOf i).toNat)
   case atStart => exact ⟨0, by omega, rfl, fun k q hk => by omega, rfl⟩
   case round =>
    obtain ⟨j, hj, rfl, HH⟩ := hrel
    obtain rfl := HH.out.2
    by_cases hlt : j < xs.length
    ·rcases HR.out.cells with ⟨-, hw⟩ | ⟨g1, c', hv', hgl1, hc1, hc2, hcell1⟩
     ·rw [hw] at hlt; simp at hlt
     ·simp only [Value.slice.injEq] at hv'
      obtain ⟨rfl, -, rfl⟩ := hv'
      obtain ⟨p, hp⟩ : ∃ p, xs[j]? = some p := ⟨_, List.getElem?_eq_getElem hlt⟩
      have hcp1 := hcell1 j p hp
      have hji : (j : Int) < xs.length := by omega
      have hpl := HBD.out.2 p (List.mem_of_getElem? hp)
      have HNM := Lib.hid (fun W : World => rName_any p W (by omega))
      have HPJ := Lib.hid hp
      obtain ⟨er, her⟩ : ∃ er : Int, nameE p = er := ⟨_, rfl⟩
      have HER := Lib.hid her
      rw [her] at HNM
      unfold maxLen at hc2
      clear hcell1 hp her hpl
      go_wp2_with fail
      (with_reducible refine (HNM.out _).mono ?_); rintro e w2 ⟨rfl, rfl⟩
      by_cases he : er = 0
      ·subst he
       go_wp2_with fail
       go_roundw
       case rel =>
        refine ⟨j + 1, by omega, by go_num, fun k q hk hkq => ?_, by first | rfl | trivial⟩
        rcases Nat.lt_succ_iff_lt_or_eq.1 hk with h | h
        ·exact HH.out.1 k q h hkq
        ·rw [h, HPJ.out] at hkq
         cases hkq
         exact HER.out
       case measure => simp [intOf]; omega
      ·have hne : (er != 0) = true := by rw [bne_iff_ne]; exact he
       obtain rfl : cb = false := by
        cases cb with
        | false => rfl
        | true => exact absurd (HER.out.symm.trans ((HCB.out.1 rfl).2.2 p (List.mem_of_getElem? HPJ.out))) he
       clear he
       go_wp2_with fail
       go_ret
       exact ⟨rfl, HB.out⟩
    ·obtain rfl : j = xs.length := by omega
     obtain rfl : cb = true := HCB.out.2 ⟨by omega, by omega, fun p hp => by
      obtain ⟨k, hk⟩ := List.mem_iff_getElem?.1 hp
      exact HH.out.1 k p (by have := (List.getElem?_eq_some_iff.1 hk).1; exact this) hk⟩
     go_wp2_with fail
     go_ret
     exact ⟨rfl, HB.out⟩
end Go.Proofs.YtkcgldpedfafpaaGreat.path

namespace Go.Proofs.YtkcgldpedfafpaaGreat.path
open Go.RowKit Go.Shelf
open heap
set_option linter.unusedVariables false
set_option linter.unusedSimpArgs false

/-- Operation 8 may write into what the region has made; every other one makes blocks alone. -/
structure xk (B : Nat) (ws : List (List UInt8)) (p : List UInt8) (j : Nat) (w1 w2 : World) : Prop where
 bel : Below B w1 w2
 ext : j ≠ 8 → Below w1.heap.size w1 w2
 k0 : ∀ g : Nat, w1.heap[g]? = some (.cells #[] 9 (0, 0)) → w2.heap[g]? = some (.cells #[] 9 (0, 0))
 k7 : ∀ g : Nat, w1.heap[g]? = some (.cells #[sv p] 9 (0, 0)) → w2.heap[g]? = some (.cells #[sv p] 9 (0, 0))
 k2 : ∀ v, SRow w1 B v ws → SRow w2 B v ws
theorem xk_ext {B j : Nat} {ws : List (List UInt8)} {p : List UInt8} {w1 w2 : World} (hB : B ≤ w1.heap.size) (h : Below w1.heap.size w1 w2) : xk B ws p j w1 w2 := ⟨h.mono hB, fun _ => h, fun _ hg => blk_below hg h, fun _ hg => blk_below hg h, fun _ hg => SRow.below hg h⟩
theorem xk_refl (B : Nat) (ws : List (List UInt8)) (p : List UInt8) (j : Nat) (w : World) : xk B ws p j w w := ⟨Below.refl _ _, fun _ => Below.refl _ _, fun _ h => h, fun _ h => h, fun _ h => h⟩
/-- One text more. -/
theorem app_one (w : World) (B g : Nat) (v : Value) (ws : List (List UInt8)) (p : List UInt8) (h : SRow w B v ws) (hg : w.heap[g]? = some (.cells #[sv p] 9 (0, 0))) (hB : B ≤ w.heap.size) (hn : ws.length ≤ 9000000) :
  ∃ v2 w2, (Builtin.append_ #[50, 50] 50 #[v, .slice (some ⟨g, 0, none⟩) 1 1]).run Tryz.prog w = .ok v2 w2 ∧ SRow w2 B v2 (ws ++ [p]) ∧ xk B ws p 8 w w2 := by
 have hnews : ∀ j u, [sv p][j]? = some u → w.cell? ((⟨g, 0, none⟩ : Addr).add j) = some u := fun k u hu => by rw [add0, blk_cell hg]; simpa using hu
 have hrow : ∀ v2 w2, w2.ownsRow B 9 1 v2 (ws.length + 1) (ws.map sv ++ [sv p]) → SRow w2 B v2 (ws ++ [p]) := fun v2 w2 h => by unfold SRow; rw [List.length_append, List.map_append]; exact h
 obtain ⟨i0, hi, hz0, hz1, hz2⟩ := info_parts infoS
 have hsv := h
 obtain ⟨hl, ⟨rfl, h0⟩ | ⟨g2, c, cur, rfl, h2, h3, h4, h5, h6, h7⟩⟩ := h
 ·obtain ⟨g0, cp, w2, hrun, hown, hgr, _⟩ := append_s w B (.slice none 0 0) ws.length _ hsv ⟨g, 0, none⟩ 1 1 [sv p] rfl hnews (by simp [Value.oneCell']) (by decide) (by omega) hB
  exact ⟨_, w2, hrun, hrow _ _ hown, xk_ext hB ⟨hgr.os, hgr.tape, hgr.output, hgr.size, fun b hb => hgr.block b hb (by simp [Value.ownBlock])⟩⟩
 ·by_cases hroom : ws.length + 1 ≤ c
  ·obtain ⟨w2, hrun, hown, hgr⟩ := run_append_fits (P := Tryz.prog) w B 50 50 9 i0 1 Tryz.underlying50 hi hz1 g2 ws.length c _ hsv ⟨g, 0, none⟩ 1 1 [sv p] rfl hnews (by simp [Value.oneCell']) hroom
   refine ⟨_, w2, hrun, hrow _ _ hown, ?_⟩
   obtain ⟨hl', ⟨h', _⟩ | ⟨g3, c3, cur3, hv3, k2, k3, k4, k5, k6, k7⟩⟩ := hown
   ·cases h'
   ·simp only [Value.slice.injEq, Option.some.injEq, Addr.mk.injEq] at hv3
    obtain ⟨⟨rfl, -, -⟩, -, rfl⟩ := hv3
    have hoth : ∀ b o, w.heap[b]? = some o → b ≠ g2 → w2.heap[b]? = some o := fun b o ho hb => by rw [hgr.block b (blk_lt ho) (fun e => hb (by simpa using e))]; exact ho
    refine ⟨⟨hgr.os, hgr.tape, hgr.output, hgr.size, fun b hb => hgr.block b (by omega) (fun e => by simp at e; omega)⟩, fun h => absurd rfl h, fun b hb => ?_, fun b hb => ?_, fun v hv => ?_⟩
    ·refine hoth b _ hb (fun e => ?_)
     subst e
     rw [h3] at hb
     simp only [Option.some.injEq, Obj.cells.injEq] at hb
     rw [hb.1] at h6
     simp at h6
     omega
    ·by_cases e : b = g2
     ·subst e
      rw [h3] at hb
      simp only [Option.some.injEq, Obj.cells.injEq] at hb
      rw [hb.1] at h6
      simp at h6
      have hw0 : ws = [] := List.length_eq_zero_iff.1 (by omega)
      subst hw0
      rw [k3]
      have e3 : cur3.toList = [sv p] := by
       have : cur3.toList.length ≤ (([] : List (List UInt8)).length + 1) * 1 := by rw [Array.length_toList, k6]; simp; omega
       rw [List.take_of_length_le this] at k7
       simpa using k7
      have : cur3 = #[sv p] := by rw [← Array.toList_inj]; simpa using e3
      rw [this]
     ·exact hoth b _ hb e
    ·obtain ⟨hl5, ⟨rfl, h50⟩ | ⟨g5, c5, cur5, rfl, m2, m3, m4, m5, m6, m7⟩⟩ := hv
     ·exact ⟨hl5, .inl ⟨rfl, h50⟩⟩
     ·by_cases e : g5 = g2
      ·subst e
       rw [h3] at m3
       simp only [Option.some.injEq, Obj.cells.injEq] at m3
       obtain ⟨rfl, -, -⟩ := m3
       refine ⟨hl5, .inr ⟨g5, c5, cur3, rfl, m2, k3, m4, m5, by omega, ?_⟩⟩
       have := congrArg (List.take (ws.length * 1)) k7
       rw [List.take_take, List.take_append_of_le_length (by simp), show min (ws.length * 1) ((ws.length + 1) * 1) = ws.length * 1 by omega] at this
       rw [this]
       rw [List.take_of_length_le (by simp)]
      ·exact ⟨hl5, .inr ⟨g5, c5, cur5, rfl, m2, hoth g5 _ m3 e, m4, m5, m6, m7⟩⟩
  ·obtain ⟨v2, w2, hrun, hown, hgr⟩ := run_append_arg_grows (P := Tryz.prog) (w := w) 50 50 9 i0 _ 1 16 Tryz.underlying50 hi hz0 hz1 hz2 rfl (by decide) ⟨g2, 0, none⟩ ws.length c (ws.map sv) (by simp) (fun j u hu => by
    have := @World.ownsRow.cells _ _ _ _ _ _ _ hsv (g := g2) rfl j u hu
    exact this) ⟨g, 0, none⟩ 1 1 [sv p] rfl hnews (by omega) (by unfold maxLen; omega) (by omega)
   exact ⟨v2, w2, hrun, hrow _ _ (own_base hown hB), xk_ext hB ⟨hgr.os, hgr.tape, hgr.output, hgr.size, fun b hb => hgr.block b hb (by simp)⟩⟩
/-- A row behind an empty one that was just made. -/
theorem app_all (w : World) (g base b0 : Nat) (hg : w.heap[g]? = some (.cells #[] 9 (0, 0))) (hb : base ≤ g) (a : Option Addr) (n c : Nat) (ws : List (List UInt8)) (h : SRow w b0 (.slice a n c) ws) (hn : ws.length ≤ 9000000) :
  ∃ v2 w2, (Builtin.append_ #[50, 50] 50 #[.slice (some ⟨g, 0, none⟩) 0 0, .slice a n c]).run Tryz.prog w = .ok v2 w2 ∧ SRow w2 base v2 ws ∧ Below w.heap.size w w2 := by
 obtain ⟨i0, hi, hz0, hz1, hz2⟩ := info_parts infoS
 have hlt := blk_lt hg
 have hnn : n = ws.length := (SRow.drop h).1
 by_cases h0 : ws = []
 ·subst h0
  obtain rfl : n = 0 := hnn
  refine ⟨.slice (some ⟨g, 0, none⟩) 0 0, w, ?_, ⟨rfl, .inr ⟨g, 0, #[], rfl, hb, hg, Nat.le_refl _, by decide, rfl, rfl⟩⟩, Below.refl _ _⟩
  cases a with
  | none => exact run_append_nothing w _ _ _ 9 i0 Tryz.underlying50 hi _ 0 0 (Nat.le_refl _) _ (Src.ofNil w Tryz.underlying50 c)
  | some ad => exact run_append_nothing w _ _ _ 9 i0 Tryz.underlying50 hi _ 0 0 (Nat.le_refl _) _ (Src.ofSlice w Tryz.underlying50 ad 0 c [] (by simp) (fun j u hu => by simp at hu) (fun u hu => by cases hu))
 ·rcases h.cells with ⟨-, hw⟩ | ⟨g1, c', hv', hgl1, hc1, hc2, hcell1⟩
  ·exact absurd hw h0
  ·simp only [Value.slice.injEq] at hv'
   obtain ⟨rfl, rfl, rfl⟩ := hv'
   have hpos : 0 < ws.length := List.length_pos_iff.2 h0
   obtain ⟨v2, w2, h1, h2, h3⟩ := run_append_arg_grows (P := Tryz.prog) (w := w) 50 50 9 i0 _ 1 16 Tryz.underlying50 hi hz0 hz1 hz2 rfl (by decide) ⟨g, 0, none⟩ 0 0 [] rfl (fun j u hu => by simp at hu) ⟨g1, 0, none⟩ ws.length c (ws.map sv) (by simp) (fun j u hu => by
    rw [List.getElem?_map] at hu
    cases hq : ws[j]? with
    | none => simp [hq] at hu
    | some q =>
     simp [hq] at hu
     rw [add0, ← hu]
     exact hcell1 j q hq) (by omega) (by unfold maxLen; omega) (by omega)
   refine ⟨v2, w2, h1, ?_, ⟨h3.os, h3.tape, h3.output, h3.size, fun b hb => h3.block b hb (by simp)⟩⟩
   rw [Nat.zero_add, List.nil_append] at h2
   exact own_base h2 (by omega)
theorem take_snoc (ps : List (List UInt8)) (j : Nat) (p : List UInt8) (h : ps[j]? = some p) : ps.take (j + 1) = ps.take j ++ [p] := by rw [List.take_add_one, h]; rfl
set_option maxRecDepth 100000 in
set_option maxHeartbeats 4000000 in
theorem rClean_main (cwd s : List UInt8) (w : World) (hc : cwd.length ≤ 2000000) (hcl : cleanB cwd = true) (h0 : s ≠ []) (hs : s.length ≤ 560) :
  Calls Tryz.prog 50 #[sv cwd, sv s] w fun e w' => e = .returned (.tuple #[sv (cleanR cwd s).1, .int .i64 (cleanR cwd s).2]) ∧ Below w.heap.size w w' := by
 have HC := Lib.hid (fun W : World => rIsClean_any cwd W hc)
 rw [hcl] at HC
 have z := str_size s
 have hcw : cwd.length ≤ 140 := ((clean_parts cwd).1 hcl).2.1
 have hst : (startW cwd s).length ≤ 8 := by
  unfold startW
  split
  ·simp
  ·exact ((clean_parts cwd).1 hcl).1
 have b0 : s.isEmpty = false := by cases s <;> simp_all
 have b0' : (s == []) = false := by rw [beq_eq_false_iff_ne]; exact h0
 have HPA := Lib.hid (fun W : World => rParts_any cwd W hc)
 have HCU := Lib.hid (fun W : World => rCut_any s W (by omega))
 have hpos : 0 < s.length := by cases s <;> simp_all
 have hz0 : 0 < (⟨s.toArray⟩ : ByteArray).size := by rw [z]; exact hpos
 have hhd : s.head? = some ((⟨s.toArray⟩ : ByteArray)[0]'hz0) := by
  cases s with
  | nil => simp at hpos
  | cons c r => rfl
 obtain ⟨x0, hx0⟩ : ∃ x0 : UInt8, (⟨s.toArray⟩ : ByteArray)[0]'hz0 = x0 := ⟨_, rfl⟩
 rw [hx0] at hhd
 obtain ⟨c0, hc0⟩ : ∃ c0 : Nat, x0.toNat = c0 := ⟨_, rfl⟩
 have d560 : decide ((560 : Int) < (s.length : Int)) = false := by simp; omega
 have hCR : cleanR cwd s = (match wayW (startW cwd s) (piecesL s) with
  | none => ([], 401)
  | some way => if way.length > 8 then ([], 402) else if (joinL way).length > 140 then ([], 403) else (joinL way, 0)) := by
  rw [cleanR, hcl, if_neg (by simp), if_neg h0, if_neg (by omega)]
  rfl
 have hcase : (((c0 : Int) != 47) = false ∧ startW cwd s = []) ∨ (((c0 : Int) != 47) = true ∧ startW cwd s = partsL cwd) := by
  by_cases hh : x0 = 47
  ·left
   refine ⟨by rw [← hc0, hh]; rfl, ?_⟩
   rw [startW, if_pos (by rw [hhd, hh])]
  ·right
   refine ⟨?_, ?_⟩
   ·rw [bne_iff_ne, ← hc0]
    intro h
    exact hh (UInt8.toNat_inj.1 (by have : x0.toNat = 47 := by omega
                                    rw [this]; rfl))
   ·rw [startW, if_neg (by rw [hhd]; intro h; exact hh (by simpa using h))]
 have HGW := Lib.hid (fun ws (h : wayW (startW cwd s) (piecesL s) = some ws) => wayW_good _ _ ws h (start_good cwd s hcl))
 have HBD := Lib.hid (pieces_bd s)
 generalize startW cwd s = st at *
 generalize piecesL s = ps at *
 have HCR := Lib.hid hCR
 generalize cleanR cwd s = R at *
 have hpsl : ps.length ≤ 561 := by have := HBD.out.1; omega
 clear hCR hhd h0 hpos hcl
 go_enter Tryz.func50, Tryz.ntmps50
 go_wp2_with fail
 (with_reducible refine (HC.out _).mono ?_); rintro e w1 ⟨rfl, hb1⟩
 have HB1 := Lib.hid hb1
 clear hb1 HC
 rcases hcase with ⟨hb22, hst0⟩ | ⟨hb22, hst0⟩
 case' inl =>
  have HR6 : Hid (SRow w1 w.heap.size (.slice none 0 0) st ∧ Below w.heap.size w w1) := ⟨by rw [hst0]; exact World.ownsRow_nil _ _ _ _, HB1.out⟩
  clear hst0 HPA
  go_wp2_with fail
 case' inr =>
  go_wp2_with fail
  (with_reducible refine (HPA.out _).mono ?_); rintro e w2 ⟨v, rfl, hr, hb⟩
  rw [← hst0] at hr
  obtain ⟨a, cp, rfl⟩ := own_slice hr
  have HR6 : Hid (SRow w2 w.heap.size (.slice a st.length cp) st ∧ Below w.heap.size w w2) := ⟨own_base hr HB1.out.size, HB1.out.trans (hb.mono HB1.out.size)⟩
  clear hr hb hst0 HPA HB1
  go_wp2_with fail
 all_goals
  (with_reducible refine (HCU.out _).mono ?_)
  rintro e w3 ⟨v7, rfl, hr7, hb7⟩
  obtain ⟨a7, c7, rfl⟩ := own_slice hr7
  have HR7 : Hid (∀ W, Below w3.heap.size w3 W → SRow W 0 (.slice a7 ps.length c7) ps) := fun W h => SRow.below (own_base hr7 (Nat.zero_le _)) h
  have HS6 := Lib.hid (And.intro (HR6.out.1.below hb7) (HR6.out.2.trans (hb7.mono HR6.out.2.size)))
  clear hr7 hb7 HR6 HCU
  go_wp2_with fail
  go_loopw [6, 8] (fun v6 i wr => ∃ (j : Nat) (a : Option Addr) (n c : Nat) (ws : List (List UInt8)), j ≤ ps.length ∧ i = .int .i64 j ∧ v6 = .slice a n c ∧ Hid (wayW st (ps.take j) = some ws ∧ SRow wr w.heap.size (.slice a n c) ws ∧ Below w3.heap.size w3 wr)) (fun _ i _ => ps.length - (intOf i).toNat)
  case atStart => exact ⟨0, _, _, _, st, by omega, rfl, rfl, by simp [wayW], HS6.out.1, Below.refl _ _⟩
  case round =>
   obtain ⟨j, a6, n6, c6, ws, hj, rfl, rfl, HH⟩ := hrel
   obtain rfl : n6 = ws.length := (SRow.drop HH.out.2.1).1
   have HWB : Hid (Below w.heap.size w wr) := HS6.out.2.trans (HH.out.2.2.mono HS6.out.2.size)
   have hwl : ws.length ≤ 569 := by have := wayW_len _ _ _ HH.out.1; rw [List.length_take] at this; omega
   by_cases hlt : j < ps.length
   ·rcases (HR7.out _ HH.out.2.2).cells with ⟨-, hw⟩ | ⟨g7, c', hv', hgl, hc1, hc2, hcell⟩
    ·rw [hw] at hlt; simp at hlt
    ·simp only [Value.slice.injEq] at hv'
     obtain ⟨rfl, -, rfl⟩ := hv'
     obtain ⟨p, hp⟩ : ∃ p, ps[j]? = some p := ⟨_, List.getElem?_eq_getElem hlt⟩
     have hcp := hcell j p hp
     have hji : (j : Int) < ps.length := by omega
     have hpl := (HBD.out.2 p (List.mem_of_getElem? hp)).1
     have hsn : wayW st (ps.take (j + 1)) = stepW ws p := by rw [take_snoc ps j p hp, wayW_snoc, HH.out.1, Option.bind_some]
     have HSN := Lib.hid hsn
     unfold maxLen at hc2
     clear hcell hp hsn
     by_cases hx1 : p = [] ∨ p = [46]
     ·have HST : Hid (wayW st (ps.take (j + 1)) = some ws) := by rw [Hid, HSN.out, stepW, if_pos hx1]
      clear HSN
      rcases hx1 with rfl | rfl
      ·go_wp2_with fail
       go_roundw
       case rel => exact ⟨j + 1, a6, _, c6, ws, by omega, by go_num, rfl, HST.out, HH.out.2⟩
       case measure => simp [intOf]; omega
      ·go_wp2_with fail
       go_roundw
       case rel => exact ⟨j + 1, a6, _, c6, ws, by omega, by go_num, rfl, HST.out, HH.out.2⟩
       case measure => simp [intOf]; omega
     ·by_cases hx2 : p = [46, 46]
      ·have HST : Hid (wayW st (ps.take (j + 1)) = some ws.dropLast) := by rw [Hid, HSN.out, stepW, if_neg hx1, if_pos hx2]
       have HROW := Lib.hid (SRow.drop HH.out.2.1).2
       subst hx2
       clear hx1 HSN
       rcases HH.out.2.1.cells with ⟨hv', hw'⟩ | ⟨g, c', hv', hg1, hc1', hc2', _⟩
       ·simp only [Value.slice.injEq] at hv'
        obtain ⟨rfl, hn, rfl⟩ := hv'
        rw [hn] at HROW
        have hn0 : (ws.length : Int) = 0 := by omega
        clear hw'
        rw [hn]
        go_wp2_with fail
        go_roundw
        case rel => exact ⟨j + 1, none, _, 0, _, by omega, by go_num, rfl, HST.out, HROW.out, HH.out.2.2⟩
        case measure => simp [intOf]; omega
       ·simp only [Value.slice.injEq] at hv'
        obtain ⟨rfl, -, rfl⟩ := hv'
        unfold maxLen at hc2'
        rcases Nat.eq_zero_or_pos ws.length with hz | hz
        ·rw [hz] at HROW hc1'
         rw [hz]
         clear hwl
         go_wp2_with fail
         go_roundw
         case rel => exact ⟨j + 1, _, _, _, _, by omega, by go_num, rfl, HST.out, HROW.out, HH.out.2.2⟩
         case measure => simp [intOf]; omega
        ·have hm1 : max (0 : Int) ((ws.length : Int) - 1) = (ws.length : Int) - 1 := by omega
         go_wp2_with fail
         go_roundw
         case rel => exact ⟨j + 1, _, ws.length - 1, _, _, by omega, by go_num, by first | rfl | (congr 1; omega), HST.out, HROW.out, HH.out.2.2⟩
         case measure => simp [intOf]; omega
      ·have b1 : p.isEmpty = false := by cases p <;> simp_all
       have b1' : (p == []) = false := by rw [beq_eq_false_iff_ne]; exact fun h => hx1 (.inl h)
       have b2 : (p == [46]) = false := by rw [beq_eq_false_iff_ne]; exact fun h => hx1 (.inr h)
       have b3 : (p == [46, 46]) = false := by rw [beq_eq_false_iff_ne]; exact hx2
       have HN := Lib.hid (fun W : World => rName_any p W (by omega))
       by_cases hn : nameE p = 0
       ·rw [hn] at HN
        have HST : Hid (wayW st (ps.take (j + 1)) = some (ws ++ [p])) := by rw [Hid, HSN.out, stepW, if_neg hx1, if_neg hx2, if_neg (by simp [hn])]
        clear hx1 hx2 hn HSN
        go_wp2_with fail
        (with_reducible refine (HN.out _).mono ?_); rintro e w5 ⟨rfl, rfl⟩
        go_wp2_with fail
        refine reg.region_eachG (by kernel_rfl) (xk wr.heap.size ws p) (fun w' => Below wr.heap.size wr w') (fun ri v w' => match ri with
          | 0 => ∃ g, v = .slice (some ⟨g, 0, none⟩) 0 0 ∧ wr.heap.size ≤ g ∧ w'.heap[g]? = some (.cells #[] 9 (0, 0))
          | 1 => v = .slice a6 ws.length c6
          | 2 => SRow w' wr.heap.size v ws
          | 3 => v = .slice (some ⟨g7, 0, none⟩) ps.length c7
          | 4 => v = .int .i64 j
          | 5 => v = .pointer (some ⟨g7, j, none⟩)
          | 6 => v = sv p
          | 7 => ∃ g, v = .slice (some ⟨g, 0, none⟩) 1 1 ∧ wr.heap.size ≤ g ∧ w'.heap[g]? = some (.cells #[sv p] 9 (0, 0))
          | 8 => SRow w' wr.heap.size v (ws ++ [p])
          | 9 => SRow w' wr.heap.size v (ws ++ [p])
          | _ => True) (fun _ _ => True
          ) ?_ ?_ ?_ ?_ ?_ (by kernel_rfl) ?_ ?_
        ·exact ⟨rfl, rfl, rfl, Nat.le_refl _, fun _ _ => rfl⟩
        ·
         intro k
         trivial
        ·
         intro j w1 w2 h hx
         exact h.trans hx.bel
        ·
         intro j i v w1 w2 hij hj hr h hx
         rcases i with _|_|_|_|_|_|_|_|_|_|i
         ·(obtain ⟨g, h1, h2, h3⟩ := h; exact ⟨g, h1, h2, hx.k0 g h3⟩)
         ·exact h
         ·exact hx.k2 v h
         ·exact h
         ·exact h
         ·exact h
         ·exact h
         ·(obtain ⟨g, h1, h2, h3⟩ := h; exact ⟨g, h1, h2, hx.k7 g h3⟩)
         ·exact SRow.below h (hx.ext (fun e => hij e.symm))
         ·exact (reg.last_no (by kernel_rfl) hij hj hr).elim
         ·trivial
        ·
         intro j k w1 w2 hkj h hx
         exact h
        ·
         refine ⟨?_, ?_, ?_, ?_, ?_, ?_, ?_, ?_, ?_, ?_, trivial⟩
         ·-- 0: slot 32 := Op.buildSlice 50 0 #[]
          intro ra w' hx hg hs
          clear hs
          have hcw := (hx.cell (World.block_lt_of_cell? _ _ hcp)).trans hcp
          change Oper.wp _ _ ra w' _ _
          refine reg.wp_value (v := .slice (some ⟨w'.heap.size, 0, none⟩) 0 0) (w' := w'.alloc (.cells #[] 9 (0, 0))) ?_ ⟨_, rfl, xk_ext hx.size ((Below.refl _ _).alloc (Nat.le_refl _) _), _, rfl, hx.size, blk_new _ _⟩
          intro ρ rc rf rg re
          simp [execOp, go_sem, rc, rf, rg] <;> first | omega | rfl | decide
         ·-- 1: slot 33 := Op.move t6
          intro ra w' hx hg hs
          have s6 : ra.eval (.tmp 6) = .slice a6 ws.length c6 := hs.1
          clear hs
          have hcw := (hx.cell (World.block_lt_of_cell? _ _ hcp)).trans hcp
          change Oper.wp _ _ ra w' _ _
          refine reg.wp_value (v := .slice a6 ws.length c6) (w' := w') ?_ ⟨_, rfl, xk_refl _ _ _ _ _, rfl⟩
          intro ρ rc rf rg re
          rw [re] at s6
          simp [execOp, go_sem, rc, rf, rg, s6] <;> first | omega | rfl | decide
         ·-- 2: slot 34 := Op.call { builtin append, args := #[t32, t33], argTypes := #[50, 50] }
          intro ra w' hx hg hs
          have s32 : ∃ g, (ra.eval (.tmp 32)) = .slice (some ⟨g, 0, none⟩) 0 0 ∧ wr.heap.size ≤ g ∧ w'.heap[g]? = some (.cells #[] 9 (0, 0)) := hs.1
          have s33 : ra.eval (.tmp 33) = .slice a6 ws.length c6 := hs.2.1
          clear hs
          have hcw := (hx.cell (World.block_lt_of_cell? _ _ hcp)).trans hcp
          change Oper.wp _ _ ra w' _ _
          obtain ⟨g, hv, hg1, hg2⟩ := s32
          have hAT : SRow w' w.heap.size (.slice a6 ws.length c6) ws := HH.out.2.1.below hx
          obtain ⟨v2, w2, hrun, hown, hext⟩ := app_all w' g wr.heap.size w.heap.size hg2 hg1 a6 _ c6 ws hAT (by omega)
          refine reg.wp_value (v := v2) (w' := w2) (reg.runs_append rfl rfl hv s33 hrun) ⟨_, rfl, xk_ext hx.size hext, hown⟩
         ·-- 3: slot 35 := Op.move t7
          intro ra w' hx hg hs
          have s7 : ra.eval (.tmp 7) = .slice (some ⟨g7, 0, none⟩) ps.length c7 := hs.1
          clear hs
          have hcw := (hx.cell (World.block_lt_of_cell? _ _ hcp)).trans hcp
          change Oper.wp _ _ ra w' _ _
          refine reg.wp_value (v := .slice (some ⟨g7, 0, none⟩) ps.length c7) (w' := w') ?_ ⟨_, rfl, xk_refl _ _ _ _ _, rfl⟩
          intro ρ rc rf rg re
          rw [re] at s7
          simp [execOp, go_sem, rc, rf, rg, s7] <;> first | omega | rfl | decide
         ·-- 4: slot 36 := Op.move t8
          intro ra w' hx hg hs
          have s8 : ra.eval (.tmp 8) = .int .i64 j := hs.1
          clear hs
          have hcw := (hx.cell (World.block_lt_of_cell? _ _ hcp)).trans hcp
          change Oper.wp _ _ ra w' _ _
          refine reg.wp_value (v := .int .i64 j) (w' := w') ?_ ⟨_, rfl, xk_refl _ _ _ _ _, rfl⟩
          intro ρ rc rf rg re
          rw [re] at s8
          simp [execOp, go_sem, rc, rf, rg, s8] <;> first | omega | rfl | decide
         ·-- 5: slot 37 := Op.indexAddr 50 t35 t36
          intro ra w' hx hg hs
          have s35 : ra.eval (.tmp 35) = .slice (some ⟨g7, 0, none⟩) ps.length c7 := hs.1
          have s36 : ra.eval (.tmp 36) = .int .i64 j := hs.2.1
          clear hs
          have hcw := (hx.cell (World.block_lt_of_cell? _ _ hcp)).trans hcp
          change Oper.wp _ _ ra w' _ _
          refine reg.wp_value (v := .pointer (some ⟨g7, j, none⟩)) (w' := w') ?_ ⟨_, rfl, xk_refl _ _ _ _ _, rfl⟩
          intro ρ rc rf rg re
          rw [re] at s35 s36
          simp [execOp, go_sem, rc, rf, rg, s35, s36] <;> first | omega | rfl | decide
         ·-- 6: slot 38 := Op.load 9 t37
          intro ra w' hx hg hs
          have s37 : ra.eval (.tmp 37) = .pointer (some ⟨g7, j, none⟩) := hs.1
          clear hs
          have hcw := (hx.cell (World.block_lt_of_cell? _ _ hcp)).trans hcp
          change Oper.wp _ _ ra w' _ _
          refine reg.wp_value (v := sv p) (w' := w') ?_ ⟨_, rfl, xk_refl _ _ _ _ _, rfl⟩
          intro ρ rc rf rg re
          rw [re] at s37
          simp [execOp, go_sem, rc, rf, rg, s37, hcw] <;> first | omega | rfl | decide
         ·-- 7: slot 39 := Op.buildSlice 50 1 #[(0, t38)]
          intro ra w' hx hg hs
          have s38 : ra.eval (.tmp 38) = sv p := hs.1
          clear hs
          have hcw := (hx.cell (World.block_lt_of_cell? _ _ hcp)).trans hcp
          change Oper.wp _ _ ra w' _ _
          refine reg.wp_value (v := .slice (some ⟨w'.heap.size, 0, none⟩) 1 1) (w' := w'.alloc (.cells #[sv p] 9 (0, 0))) ?_ ⟨_, rfl, xk_ext hx.size ((Below.refl _ _).alloc (Nat.le_refl _) _), _, rfl, hx.size, blk_new _ _⟩
          intro ρ rc rf rg re
          rw [re] at s38
          simp [execOp, go_sem, rc, rf, rg, s38] <;> first | omega | rfl | decide
         ·-- 8: slot 40 := Op.call { builtin append, args := #[t34, t39], argTypes := #[50, 50] }
          intro ra w' hx hg hs
          have s34 : SRow w' wr.heap.size (ra.eval (.tmp 34)) ws := hs.1
          have s39 : ∃ g, (ra.eval (.tmp 39)) = .slice (some ⟨g, 0, none⟩) 1 1 ∧ wr.heap.size ≤ g ∧ w'.heap[g]? = some (.cells #[sv p] 9 (0, 0)) := hs.2.1
          clear hs
          have hcw := (hx.cell (World.block_lt_of_cell? _ _ hcp)).trans hcp
          change Oper.wp _ _ ra w' _ _
          obtain ⟨g, hv, hg1, hg2⟩ := s39
          obtain ⟨v2, w2, hrun, hown, hext⟩ := app_one w' wr.heap.size g _ ws p s34 hg2 hx.size (by omega)
          refine reg.wp_value (v := v2) (w' := w2) (reg.runs_append rfl rfl rfl hv hrun) ⟨_, rfl, hext, hown⟩
         ·-- 9: slot 6 := Op.assign t40
          intro ra w' hx hg hs
          have s40 : SRow w' wr.heap.size (ra.eval (.tmp 40)) (ws ++ [p]) := hs.1
          clear hs
          have hcw := (hx.cell (World.block_lt_of_cell? _ _ hcp)).trans hcp
          change Oper.wp _ _ ra w' _ _
          refine reg.wp_value (v := ra.eval (.tmp 40)) (w' := w') ?_ ⟨_, rfl, xk_refl _ _ _ _ _, s40⟩
          intro ρ rc rf rg re
          rw [re]
          simp [execOp, go_sem]
        intro rV w6 hx6 hf
        have ve0 := hf 0 (by decide)
        have ve1 : rV 1 = .slice a6 ws.length c6 := hf 1 (by decide)
        have ve2 := hf 2 (by decide)
        have ve3 : rV 3 = .slice (some ⟨g7, 0, none⟩) ps.length c7 := hf 3 (by decide)
        have ve4 : rV 4 = .int .i64 j := hf 4 (by decide)
        have ve5 : rV 5 = .pointer (some ⟨g7, j, none⟩) := hf 5 (by decide)
        have ve6 : rV 6 = sv p := hf 6 (by decide)
        have ve7 := hf 7 (by decide)
        have ve8 := hf 8 (by decide)
        have ve9 := hf 9 (by decide)
        clear hf
        simp only [List.zipIdx_cons, List.zipIdx_nil, List.foldl_cons, List.foldl_nil, Act.put, Nat.reduceAdd, List.setIfInBounds_toArray, List.set_cons_succ, List.set_cons_zero, ve1, ve3, ve4, ve5, ve6]
        clear ve1 ve3 ve4 ve5 ve6
        generalize rV 0 = v0 at *
        generalize rV 2 = v2 at *
        generalize rV 7 = v7 at *
        generalize rV 8 = v8 at *
        generalize rV 9 = v9 at *
        clear rV
        obtain ⟨a9, c9, rfl⟩ := own_slice ve9
        have HNX : Hid (SRow w6 w.heap.size (.slice a9 (ws ++ [p]).length c9) (ws ++ [p]) ∧ Below w3.heap.size w3 w6) := ⟨own_base ve9 HWB.out.size, HH.out.2.2.trans (hx6.mono HH.out.2.2.size)⟩
        clear hx6 ve9 ve0 ve2 ve7 ve8
        go_wp2_with fail
        go_roundw
        case rel => exact ⟨j + 1, a9, _, c9, _, by omega, by go_num, rfl, HST.out, HNX.out⟩
        case measure => simp [intOf]; omega
       ·obtain ⟨er, her⟩ : ∃ er : Int, nameE p = er := ⟨_, rfl⟩
        have HST : Hid (R = ([], 401)) := by
         have h1 : wayW st (ps.take (j + 1)) = none := by rw [HSN.out, stepW, if_neg hx1, if_neg hx2, if_pos hn]
         have h2 := wayW_none (ps.drop (j + 1)) h1
         rw [List.take_append_drop] at h2
         rw [Hid, HCR.out, h2]
        rw [her] at HN hn
        have hne : (er != 0) = true := by rw [bne_iff_ne]; exact hn
        clear hx1 hx2 hn HSN her
        go_wp2_with fail
        (with_reducible refine (HN.out _).mono ?_); rintro e w5 ⟨rfl, rfl⟩
        go_wp2_with fail
        first | go_ret | go_ret2
        exact ⟨by rw [HST.out]; rfl, HWB.out⟩
   ·obtain rfl : j = ps.length := by omega
    have hway := HH.out.1
    rw [List.take_length] at hway
    have hg := HGW.out ws hway
    have hr := HCR.out
    rw [hway] at hr
    have HG := Lib.hid hg
    have HRR := Lib.hid hr
    clear hway hg hr HCR HGW
    by_cases h8 : 8 < ws.length
    ·have HST : Hid (R = ([], 402)) := by rw [Hid, HRR.out]; exact if_pos h8
     have d8 : decide ((8 : Int) < (ws.length : Int)) = true := decide_eq_true (by omega)
     go_wp2_with fail
     first | go_ret | go_ret2
     exact ⟨by rw [HST.out]; rfl, HWB.out⟩
    ·have d8 : decide ((8 : Int) < (ws.length : Int)) = false := decide_eq_false (by omega)
     have HJ : Hid ((joinL ws).length ≤ 136) := by
      have := inter_len 16 ws (fun q hq => (good_no (HG.out q hq)).2.2.2.2)
      rw [Hid]; omega
     have HR2 : Hid (R = if (joinL ws).length > 140 then ([], 403) else (joinL ws, 0)) := by rw [Hid, HRR.out]; exact if_neg (by omega)
     have HRW := Lib.hid HH.out.2.1
     clear HRR HH
     go_wp2_with fail
     go_loopw [9, 10] (fun o i wx => ∃ k : Nat, k ≤ ws.length ∧ i = .int .i64 k ∧ o = sv (joinL (ws.take k)) ∧ Hid (wr = wx)) (fun _ i _ => ws.length - (intOf i).toNat)
     case atStart => exact ⟨0, by omega, rfl, by rw [List.take_zero, joinL_nil], rfl⟩
     case round =>
      obtain ⟨k, hk, rfl, rfl, HW⟩ := hrel
      obtain rfl := HW.out
      by_cases hlt2 : k < ws.length
      ·rcases HRW.out.cells with ⟨-, hw⟩ | ⟨g, c', hv', hgl, hc1, hc2, hcell⟩
       ·rw [hw] at hlt2; simp at hlt2
       ·simp only [Value.slice.injEq] at hv'
        obtain ⟨rfl, -, rfl⟩ := hv'
        obtain ⟨p, hp⟩ : ∃ p, ws[k]? = some p := ⟨_, List.getElem?_eq_getElem hlt2⟩
        have hcp := hcell k p hp
        have hki : (k : Int) < ws.length := by omega
        have hpl := (good_no (HG.out p (List.mem_of_getElem? hp))).2.2.2.2
        have hjl := join_take_le ws k
        have HJO : Hid (∀ W : World, Calls Tryz.prog 68 #[sv (joinL (ws.take k)), sv p] W fun e w' => e = .returned (sv (joinL (ws.take (k + 1)))) ∧ W = w') := fun W => by
         have hj := HJ.out
         have := rJoin_any (joinL (ws.take k)) p W (by omega)
         rw [join_step ws k p HG.out hp] at this; exact this
        unfold maxLen at hc2
        clear hcell hp hjl hpl
        generalize joinL (ws.take k) = t1 at *
        generalize hM2 : joinL (ws.take (k + 1)) = t2 at *
        have HM2 := Lib.hid hM2
        clear hM2
        go_wp2_with fail
        (with_reducible refine (HJO.out _).mono ?_); rintro e w5 ⟨rfl, rfl⟩
        go_wp2_with fail
        go_roundw
        case rel => exact ⟨k + 1, by omega, by go_num, by rw [HM2.out], by first | exact rfl | trivial⟩
        case measure => simp [intOf]; omega
      ·obtain rfl : k = ws.length := by omega
       rw [List.take_length]
       have hJ := HJ.out
       have hR : R = (joinL ws, 0) := by rw [HR2.out, if_neg (by omega)]
       have HR3 := Lib.hid hR
       have zj := str_size (joinL ws)
       have d140 : decide ((140 : Int) < ((joinL ws).length : Int)) = false := decide_eq_false (by omega)
       clear hR HR2 HJ
       generalize joinL ws = t1 at *
       go_wp2_with fail
       first | go_ret | go_ret2
       exact ⟨by rw [HR3.out]; rfl, HWB.out⟩
end Go.Proofs.YtkcgldpedfafpaaGreat.path

namespace Go.Proofs.YtkcgldpedfafpaaGreat.path
open Go.RowKit Go.Shelf
open heap
set_option linter.unusedVariables false

set_option maxRecDepth 100000 in
set_option maxHeartbeats 1000000 in
theorem rClean_any (cwd s : List UInt8) (w : World) (hc : cwd.length ≤ 2000000) (hs : s.length ≤ 2000000) :
  Calls Tryz.prog 50 #[sv cwd, sv s] w fun e w' => e = .returned (.tuple #[sv (cleanR cwd s).1, .int .i64 (cleanR cwd s).2]) ∧ Below w.heap.size w w' := by
 have HC := Lib.hid (fun W : World => rIsClean_any cwd W hc)
 have z := str_size s
 cases h1 : cleanB cwd with
 | false =>
  have e : cleanR cwd s = ([], 401) := by simp [cleanR, h1]
  rw [e]
  rw [h1] at HC
  go_enter Tryz.func50, Tryz.ntmps50
  go_wp2_with fail
  (with_reducible refine (HC.out _).mono ?_); rintro e w1 ⟨rfl, hb1⟩
  have HB1 := Lib.hid hb1
  clear hb1 HC
  go_wp2_with fail
  first | go_ret | go_ret2
  exact ⟨rfl, HB1.out⟩
 | true =>
  by_cases h2 : s = []
  ·have e : cleanR cwd s = ([], 400) := by simp [cleanR, h1, h2]
   rw [e]
   rw [h1] at HC
   subst h2
   go_enter Tryz.func50, Tryz.ntmps50
   go_wp2_with fail
   (with_reducible refine (HC.out _).mono ?_); rintro e w1 ⟨rfl, hb1⟩
   have HB1 := Lib.hid hb1
   clear hb1 HC
   go_wp2_with fail
   first | go_ret | go_ret2
   exact ⟨rfl, HB1.out⟩
  ·by_cases h3 : 560 < s.length
   ·have e : cleanR cwd s = ([], 403) := by simp [cleanR, h1, h2, h3]
    rw [e]
    rw [h1] at HC
    have b0 : s.isEmpty = false := by cases s <;> simp_all
    have b0' : (s == []) = false := by rw [beq_eq_false_iff_ne]; exact h2
    clear h2
    go_enter Tryz.func50, Tryz.ntmps50
    go_wp2_with fail
    (with_reducible refine (HC.out _).mono ?_); rintro e w1 ⟨rfl, hb1⟩
    have HB1 := Lib.hid hb1
    clear hb1 HC
    have d560 : decide ((560 : Int) < (s.length : Int)) = true := decide_eq_true (by omega)
    go_wp2_with fail
    first | go_ret | go_ret2
    exact ⟨rfl, HB1.out⟩
   ·exact rClean_main cwd s w hc h1 h2 (by omega)
end Go.Proofs.YtkcgldpedfafpaaGreat.path
