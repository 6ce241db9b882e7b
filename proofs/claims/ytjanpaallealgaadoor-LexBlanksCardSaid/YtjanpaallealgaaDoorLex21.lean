/-
  Proved: that LexBlanks says true, of every text. Conditions: as each theorem says.
-/
import Derived.Test.YtjanpaallealgaaDoorLex20
import Derived.Test.YtjanpaallealgaaDoorReg2
namespace Go.Proofs.YtjanpaallealgaaDoor.lex
open Go.RowKit
open heap
open flt (str_size)
open num (list_len drop_cons)
set_option linter.unusedVariables false
set_option linter.unusedSimpArgs false
set_option maxRecDepth 100000

theorem Tokens_long (s : ByteArray) (w : World) (h : 16384 < s.size) (hs : s.size ≤ maxLen) :
    Calls Tryd.prog 6 #[.string s] w fun e w' => e = .returned (.tuple #[.slice none 0 0, .int .i64 0, .int .i64 1803]) ∧ w = w' := by
  unfold maxLen at hs
  have hd : decide (16384 < (s.size : Int)) = true := decide_eq_true (by omega)
  go_enter Tryd.func6, Tryd.ntmps6
  go_wp2_with fail
  exact bodyPost_ret (v := .tuple #[.slice none 0 0, .int .i64 0, .int .i64 1803]) (by simp [results, Tryd.results6, go_sem]) rfl ⟨rfl, rfl⟩
theorem Tok_all (s : ByteArray) (w : World) (hs : s.size ≤ maxLen) (htab : Lib.TabIs Tryd.prog w "strings.asciiSpace" .u8 Lib.asciiSpaceTab) :
    Calls Tryd.prog 6 #[.string s] w fun e w' => ∃ v, e = .returned (.tuple #[v, .int .i64 (scanL s.data.toList).2.1, .int .i64 (scanL s.data.toList).2.2]) ∧ ((scanL s.data.toList).2.2 = 0 → TRow w' w.heap.size v (scanL s.data.toList).1) ∧ Below w.heap.size w w' := by
  by_cases h : 16384 < s.size
  · refine (Tokens_long s w h hs).mono ?_
    rintro e w' ⟨rfl, rfl⟩
    rw [show scanL s.data.toList = ([], 0, 1803) by unfold scanL; rw [if_pos (by rw [list_len]; exact h)]]
    exact ⟨_, rfl, fun h => absurd h (by decide), Below.refl _ _⟩
  · refine (Tokens_any s w (by omega) htab).mono ?_
    rintro e w' ⟨v, rfl, h1, -, hb⟩
    exact ⟨v, rfl, h1, hb⟩
abbrev sepCs : Array Value := #[.string ⟨#[32]⟩, .string ⟨#[10]⟩, .string ⟨#[35, 32, 120, 10]⟩, .string ⟨#[9, 13, 10, 32]⟩]
theorem sep_cell (q : Nat) : sepCs[q % 4]? = some (.string ⟨(sepL q).toArray⟩) := by
  have h : q % 4 = 0 ∨ q % 4 = 1 ∨ q % 4 = 2 ∨ q % 4 = 3 := by omega
  unfold sepL
  rcases h with h | h | h | h <;> rw [h] <;> rfl
theorem add_wrap (p i : Nat) (hp : p ≤ 255) (hi : i ≤ 100000) : IntKind.i64.wrap ((p : Int) + (i : Int)) = ((p + i : Nat) : Int) := by
  rw [IntKind.wrap_i64]; omega
theorem mod_wrap (q : Nat) (hq : q ≤ 200000) : IntKind.i64.wrap (Int.tmod (q : Int) 4) = ((q % 4 : Nat) : Int) := by
  rw [Int.tmod_eq_emod_of_nonneg (by omega), IntKind.wrap_i64]; omega
theorem ext_mid' (s : ByteArray) (a n : Nat) : s.extract a (a + n) = ⟨((s.data.toList.drop a).take n).toArray⟩ := by
  apply ByteArray.ext
  apply Array.toList_inj.1
  rw [ByteArray.data_extract, Array.toList_extract, List.extract_eq_take_drop]
  simp
theorem cat_l (a b : List UInt8) : (⟨a.toArray⟩ : ByteArray) ++ ⟨b.toArray⟩ = ⟨(a ++ b).toArray⟩ := by
  apply ByteArray.ext
  simp [ByteArray.data_append]
theorem same_at {ts us : List Tk} (h : sameT ts us) (j : Nat) (t : Tk) (ht : ts[j]? = some t) : ∃ u, us[j]? = some u ∧ u.kind = t.kind ∧ u.text = t.text := by
  unfold sameT at h
  have h1 := congrArg (fun z => z[j]?) h
  simp only [List.getElem?_map, ht, Option.map_some] at h1
  cases hu : us[j]? with
  | none => rw [hu] at h1; cases h1
  | some u =>
    rw [hu] at h1
    simp at h1
    exact ⟨u, rfl, h1.1.symm, h1.2.symm⟩
theorem same_len {ts us : List Tk} (h : sameT ts us) : us.length = ts.length := by
  have := congrArg List.length h
  simpa [sameT] using this.symm
set_option maxHeartbeats 8000000 in
theorem lexBlanks_any (s : ByteArray) (pick : Int) (w : World) (hs : s.size ≤ maxLen) (htab : Lib.TabIs Tryd.prog w "strings.asciiSpace" .u8 Lib.asciiSpaceTab) :
    Calls Tryd.prog 3 #[.string s, .int .i64 pick] w fun e w' => e = .returned (.bool true) ∧ Below w.heap.size w w' := by
  have HAW := Lib.hid (awake_any w htab)
  have HT := Lib.hid (fun W (h : Below w.heap.size w W) => Tok_all s W hs (tab_below htab h))
  have HT2 := Lib.hid (fun T W (h : Below w.heap.size w W) hT => Tokens_any T W hT (tab_below htab h))
  unfold maxLen at hs
  have hlen := list_len s
  clear htab
  obtain ⟨lx, hlx⟩ : ∃ lx, scanL s.data.toList = lx := ⟨_, rfl⟩
  obtain ⟨ts, p0, er⟩ := lx
  have HLX := Lib.hid hlx
  rw [hlx] at HT
  simp only at HT
  clear hlx
  go_enter Tryd.func3, Tryd.ntmps3
  go_wp2_with fail
  (with_reducible refine HAW.out.mono ?_); rintro e w1 ⟨rfl, hb1⟩
  have HB1 := Lib.hid hb1
  clear hb1 HAW
  go_wp2_with fail
  refine (HT.out _ HB1.out).mono ?_; rintro e w2 ⟨v, rfl, hrow, hb2⟩
  have HB2 := Lib.hid (HB1.out.trans (hb2.mono HB1.out.size))
  have HROW := Lib.hid hrow
  clear hrow hb2 HT
  by_cases her : er = 0
  · subst her
    by_cases hsm : 2048 < s.size
    · have hd : decide (2048 < (s.size : Int)) = true := decide_eq_true (by omega)
      go_wp2_with (go_at_call 7; refine (Num_any _ _).mono ?_; rintro e w' ⟨rfl, rfl⟩)
      go_ret
      exact ⟨rfl, HB2.out⟩
    · have hd : decide (2048 < (s.size : Int)) = false := decide_eq_false (by omega)
      have HR2 := Lib.hid (HROW.out rfl)
      obtain ⟨a1, c1, rfl⟩ := HR2.out.slice
      have hp00 : p0 = 0 := by
        have h1 := HLX.out
        unfold scanL at h1
        rw [if_neg (by omega)] at h1
        have hz2 : ∀ (f : Nat) (t : List UInt8) (a : Nat), (scanF f t a).2.2 = 0 → (scanF f t a).2.1 = 0 := by
          intro f
          induction f with
          | zero => intro _ _ _; rfl
          | succ f ih =>
            intro t a
            rw [scanF]
            split
            · intro _; rfl
            · split
              · rename_i e he
                intro h; exact absurd h (tok_err he)
              · exact ih _ _
        have h2 := hz2 (s.data.toList.length + 1) (s.data.toList.drop (skp false s.data.toList)) (skp false s.data.toList)
        rw [h1] at h2
        exact h2 rfl
      subst hp00
      obtain ⟨P, hP, hPP⟩ := and255 pick
      obtain ⟨us, hus, hsame, hfl⟩ := blk_same HLX.out (by omega) P
      have HST := Lib.hid (Bl.start HLX.out P)
      have hfew : ts.length ≤ 20000 := by
        have h1 := HLX.out
        unfold scanL at h1
        rw [if_neg (by omega)] at h1
        have hq : ∀ (f : Nat) (t : List UInt8) (a : Nat), (scanF f t a).1.length ≤ f := by
          intro f
          induction f with
          | zero => intro _ _; simp [scanF]
          | succ f ih =>
            intro t a
            rw [scanF]
            split
            · simp
            · split
              · simp
              · have := ih
                simp only [List.length_cons]
                exact Nat.succ_le_succ (ih _ _)
        have h2 := hq (s.data.toList.length + 1) (s.data.toList.drop (skp false s.data.toList)) (skp false s.data.toList)
        rw [h1] at h2
        simp only at h2
        omega
      generalize blkF (s.data.toList.length + 1) (s.data.toList.drop (skp false s.data.toList)) P = FULL at *
      have HUS := Lib.hid hus
      have HSM := Lib.hid hsame
      have hss : s.size ≤ 2048 := by omega
      clear hus hsame HROW hsm
      go_wp2_with (go_at_call 7; refine (Num_any _ _).mono ?_; rintro e w' ⟨rfl, rfl⟩)
      go_loopw [8, 9] (fun vt vi wr => ∃ (i k f : Nat) (tt : List UInt8), vt = .string ⟨tt.toArray⟩ ∧ vi = .int .i64 i ∧ i ≤ ts.length ∧ Hid (Bl s.data.toList ts P FULL i k f tt ∧ Below w2.heap.size w2 wr)) (fun _ vi _ => ts.length - (intOf vi).toNat)
      case atStart => exact ⟨0, _, _, [], rfl, rfl, Nat.zero_le _, ⟨HST.out, Below.refl _ _⟩⟩
      case round =>
        obtain ⟨i, k, f, tt, rfl, rfl, hi, hr⟩ := hrel
        obtain ⟨hbl, hbw⟩ := hr.out
        have HBL := Lib.hid hbl
        have HBW := Lib.hid hbw
        have hsml := hbl.small
        have hkle := hbl.le
        have zt := str_size tt
        clear hr hbl hbw
        by_cases hlt : i + 1 < ts.length
        · have hltI : decide ((i : Int) + 1 < (ts.length : Int)) = true := decide_eq_true (by omega)
          obtain ⟨kd, u, x, n, k', f', h0, ht, hti, hkn, hbl'⟩ := HBL.out.next hlt
          rw [hlen] at hkn
          have HN := Lib.hid hbl'
          have HE := Lib.hid (fun W (h : Below wr.heap.size wr W) => end_any s _ _ ts i kd u x k n W ((HR2.out.below HBW.out).below h) hti h0 ht hkn (by omega) (by omega))
          have hkI : (i : Int) < (ts.length : Int) := by omega
          rcases (HR2.out.below HBW.out).cells with ⟨-, hz⟩ | ⟨g1, d1, hv1, hg1, -, hc1, hc1', hcell1⟩
          · rw [hz] at hlt; simp at hlt
          · simp only [Value.slice.injEq] at hv1
            obtain ⟨rfl, -, rfl⟩ := hv1
            have x3 := (hcell1 i _ hti).2.2.2
            simp only at x3
            have hex := ext_mid' s k n
            have hzx : (s.extract k (k + n)).size = n := by rw [ByteArray.size_extract]; omega
            have hjn := cat_l tt ((s.data.toList.drop k).take n)
            have hjm := cat_l (tt ++ (s.data.toList.drop k).take n) (sepL (P + i))
            rw [← hex] at hjn
            rw [← hjn] at hjm
            have HJM := Lib.hid hjm
            have zs := str_size (sepL (P + i))
            have zl := sep_len (P + i)
            have hsc := sep_cell (P + i)
            have haw := add_wrap P i hP (by omega)
            have hmw := mod_wrap (P + i) (by omega)
            have hm4 : (P + i) % 4 < 4 := Nat.mod_lt _ (by decide)
            unfold maxLen at hc1'
            clear hcell1 hti ht h0 hbl' hex hjn hjm
            generalize (⟨tt.toArray⟩ : ByteArray) = T1 at *
            generalize hT2 : s.extract k (k + n) = T2 at *
            generalize hSP : (⟨(sepL (P + i)).toArray⟩ : ByteArray) = SP at *
            have hq1 : (0 : Int) ≤ (k : Int) + n ∧ (k : Int) + n ≤ s.size := by omega
            have hq2 : (k : Int) ≤ (k : Int) + n := by omega
            have hq3 : ((k : Int) + n).toNat = k + n := by omega
            have hq5 : tt.length + n ≤ 9223372036854775807 := by omega
            have hq6 : tt.length + n + (sepL (P + i)).length ≤ 9223372036854775807 := by omega
            have hm5 : (0 : Int) ≤ ((P : Int) + i) % 4 ∧ ((P : Int) + i) % 4 < 4 := by omega
            have hm6 : (((P : Int) + i) % 4).toNat = (P + i) % 4 := by omega
            have hz12 : (T1 ++ T2).size = T1.size + T2.size := ByteArray.size_append ..
            go_wp2_with fail
            refine reg.region_each (by kernel_rfl) reg.Ext (fun ri v w' => match ri with
                | 0 => v = .string T1
                | 1 => v = .string s
                | 2 => v = .slice (some ⟨g1, 0, none⟩) ts.length c1
                | 3 => v = .int .i64 i
                | 4 => v = .pointer (some ⟨g1, i * 4, none⟩)
                | 5 => v = .pointer (some ⟨g1, i * 4 + 3, none⟩)
                | 6 => v = .int .i64 k
                | 7 => v = .string s
                | 8 => v = .slice (some ⟨g1, 0, none⟩) ts.length c1
                | 9 => v = .int .i64 i
                | 10 => v = .int .i64 ((k + n : Nat) : Int)
                | 11 => v = .string T2
                | 12 => v = .string (T1 ++ T2)
                | 13 => ∃ g, v = .slice (some ⟨g, 0, none⟩) 4 4 ∧ w'.heap[g]? = some (.cells sepCs 9 (0, 0))
                | 14 => v = .int .i64 pick
                | 15 => v = .int .i64 P
                | 16 => v = .int .i64 i
                | 17 => v = .int .i64 ((P + i : Nat) : Int)
                | 18 => v = .int .i64 (((P + i) % 4 : Nat) : Int)
                | 19 => ∃ g, v = .pointer (some ⟨g, (P + i) % 4, none⟩) ∧ w'.heap[g]? = some (.cells sepCs 9 (0, 0))
                | 20 => v = .string SP
                | 21 => v = .string (T1 ++ T2 ++ SP)
                | 22 => v = .string (T1 ++ T2 ++ SP)
                | _ => True) reg.Ext.refl reg.Ext.trans ?_ (by kernel_rfl) ?_ ?_
            ·
              intro i v w1 w2 h hx
              rcases i with _|_|_|_|_|_|_|_|_|_|_|_|_|_|_|_|_|_|_|_|_|_|_|i
              · exact h
              · exact h
              · exact h
              · exact h
              · exact h
              · exact h
              · exact h
              · exact h
              · exact h
              · exact h
              · exact h
              · exact h
              · exact h
              · (obtain ⟨g, h1, h2⟩ := h; exact ⟨g, h1, hx.blk h2⟩)
              · exact h
              · exact h
              · exact h
              · exact h
              · exact h
              · (obtain ⟨g, h1, h2⟩ := h; exact ⟨g, h1, hx.blk h2⟩)
              · exact h
              · exact h
              · exact h
              · trivial
            ·
              refine ⟨?_, ?_, ?_, ?_, ?_, ?_, ?_, ?_, ?_, ?_, ?_, ?_, ?_, ?_, ?_, ?_, ?_, ?_, ?_, ?_, ?_, ?_, ?_, trivial⟩
              · -- 0: slot 37 := Op.move t8
                intro ra w' hx hs
                have s8 : ra.eval (.tmp 8) = .string T1 := hs.1
                clear hs
                have x3 := hx.cell x3
                change Oper.wp _ _ ra w' _ _
                refine reg.wp_value (v := .string T1) (w' := w') ?_ ⟨_, rfl, reg.Ext.refl _, rfl⟩
                intro ρ rc rf rg re
                rw [re] at s8
                simp [execOp, go_sem, rc, rf, rg, s8] <;> first | omega | rfl | decide
              · -- 1: slot 38 := Op.move t0
                intro ra w' hx hs
                have s0 : ra.eval (.tmp 0) = .string s := hs.1
                clear hs
                have x3 := hx.cell x3
                change Oper.wp _ _ ra w' _ _
                refine reg.wp_value (v := .string s) (w' := w') ?_ ⟨_, rfl, reg.Ext.refl _, rfl⟩
                intro ρ rc rf rg re
                rw [re] at s0
                simp [execOp, go_sem, rc, rf, rg, s0] <;> first | omega | rfl | decide
              · -- 2: slot 39 := Op.move t5
                intro ra w' hx hs
                have s5 : ra.eval (.tmp 5) = .slice (some ⟨g1, 0, none⟩) ts.length c1 := hs.1
                clear hs
                have x3 := hx.cell x3
                change Oper.wp _ _ ra w' _ _
                refine reg.wp_value (v := .slice (some ⟨g1, 0, none⟩) ts.length c1) (w' := w') ?_ ⟨_, rfl, reg.Ext.refl _, rfl⟩
                intro ρ rc rf rg re
                rw [re] at s5
                simp [execOp, go_sem, rc, rf, rg, s5] <;> first | omega | rfl | decide
              · -- 3: slot 40 := Op.move t9
                intro ra w' hx hs
                have s9 : ra.eval (.tmp 9) = .int .i64 i := hs.1
                clear hs
                have x3 := hx.cell x3
                change Oper.wp _ _ ra w' _ _
                refine reg.wp_value (v := .int .i64 i) (w' := w') ?_ ⟨_, rfl, reg.Ext.refl _, rfl⟩
                intro ρ rc rf rg re
                rw [re] at s9
                simp [execOp, go_sem, rc, rf, rg, s9] <;> first | omega | rfl | decide
              · -- 4: slot 41 := Op.indexAddr 23 t39 t40
                intro ra w' hx hs
                have s39 : ra.eval (.tmp 39) = .slice (some ⟨g1, 0, none⟩) ts.length c1 := hs.1
                have s40 : ra.eval (.tmp 40) = .int .i64 i := hs.2.1
                clear hs
                have x3 := hx.cell x3
                change Oper.wp _ _ ra w' _ _
                refine reg.wp_value (v := .pointer (some ⟨g1, i * 4, none⟩)) (w' := w') ?_ ⟨_, rfl, reg.Ext.refl _, rfl⟩
                intro ρ rc rf rg re
                rw [re] at s39 s40
                simp [execOp, go_sem, rc, rf, rg, s39, s40, hkI] <;> first | omega | rfl | decide
              · -- 5: slot 42 := Op.fieldAddr 30 t41 3
                intro ra w' hx hs
                have s41 : ra.eval (.tmp 41) = .pointer (some ⟨g1, i * 4, none⟩) := hs.1
                clear hs
                have x3 := hx.cell x3
                change Oper.wp _ _ ra w' _ _
                refine reg.wp_value (v := .pointer (some ⟨g1, i * 4 + 3, none⟩)) (w' := w') ?_ ⟨_, rfl, reg.Ext.refl _, rfl⟩
                intro ρ rc rf rg re
                rw [re] at s41
                simp [execOp, go_sem, rc, rf, rg, s41] <;> first | omega | rfl | decide
              · -- 6: slot 43 := Op.load 3 t42
                intro ra w' hx hs
                have s42 : ra.eval (.tmp 42) = .pointer (some ⟨g1, i * 4 + 3, none⟩) := hs.1
                clear hs
                have x3 := hx.cell x3
                change Oper.wp _ _ ra w' _ _
                refine reg.wp_value (v := .int .i64 k) (w' := w') ?_ ⟨_, rfl, reg.Ext.refl _, rfl⟩
                intro ρ rc rf rg re
                rw [re] at s42
                simp [execOp, go_sem, rc, rf, rg, s42, x3] <;> first | omega | rfl | decide
              · -- 7: slot 44 := Op.move t0
                intro ra w' hx hs
                have s0 : ra.eval (.tmp 0) = .string s := hs.1
                clear hs
                have x3 := hx.cell x3
                change Oper.wp _ _ ra w' _ _
                refine reg.wp_value (v := .string s) (w' := w') ?_ ⟨_, rfl, reg.Ext.refl _, rfl⟩
                intro ρ rc rf rg re
                rw [re] at s0
                simp [execOp, go_sem, rc, rf, rg, s0] <;> first | omega | rfl | decide
              · -- 8: slot 45 := Op.move t5
                intro ra w' hx hs
                have s5 : ra.eval (.tmp 5) = .slice (some ⟨g1, 0, none⟩) ts.length c1 := hs.1
                clear hs
                have x3 := hx.cell x3
                change Oper.wp _ _ ra w' _ _
                refine reg.wp_value (v := .slice (some ⟨g1, 0, none⟩) ts.length c1) (w' := w') ?_ ⟨_, rfl, reg.Ext.refl _, rfl⟩
                intro ρ rc rf rg re
                rw [re] at s5
                simp [execOp, go_sem, rc, rf, rg, s5] <;> first | omega | rfl | decide
              · -- 9: slot 46 := Op.move t9
                intro ra w' hx hs
                have s9 : ra.eval (.tmp 9) = .int .i64 i := hs.1
                clear hs
                have x3 := hx.cell x3
                change Oper.wp _ _ ra w' _ _
                refine reg.wp_value (v := .int .i64 i) (w' := w') ?_ ⟨_, rfl, reg.Ext.refl _, rfl⟩
                intro ρ rc rf rg re
                rw [re] at s9
                simp [execOp, go_sem, rc, rf, rg, s9] <;> first | omega | rfl | decide
              · -- 10: slot 47 := Op.call { value (Operand.func 8), args := #[t44, t45, t46], argTypes := #[9, 23, 3] }
                intro ra w' hx hs
                have s44 : ra.eval (.tmp 44) = .string s := hs.1
                have s45 : ra.eval (.tmp 45) = .slice (some ⟨g1, 0, none⟩) ts.length c1 := hs.2.1
                have s46 : ra.eval (.tmp 46) = .int .i64 i := hs.2.2.1
                clear hs
                have x3 := hx.cell x3
                change Oper.wp _ _ ra w' _ _
                refine reg.wp_call (f := 8) (args := #[.string s, .slice (some ⟨g1, 0, none⟩) ts.length c1, .int .i64 i]) (w' := w') ?_ ((HE.out w' (Below.trans (Below.drew (Below.refl _ _)) hx)).mono ?_)
                · intro ρ rc rf rg re
                  rw [re] at s44 s45 s46
                  simp [execOp, go_sem, rc, rf, rg, s44, s45, s46] <;> first | omega | rfl | decide
                · rintro e w2 ⟨rfl, hb⟩
                  exact ⟨_, rfl, _, rfl, hb, rfl⟩
              · -- 11: slot 48 := Op.slice 9 t38 (some t43) (some t47) none
                intro ra w' hx hs
                have s38 : ra.eval (.tmp 38) = .string s := hs.1
                have s43 : ra.eval (.tmp 43) = .int .i64 k := hs.2.1
                have s47 : ra.eval (.tmp 47) = .int .i64 ((k + n : Nat) : Int) := hs.2.2.1
                clear hs
                have x3 := hx.cell x3
                change Oper.wp _ _ ra w' _ _
                refine reg.wp_value (v := .string T2) (w' := w') ?_ ⟨_, rfl, reg.Ext.refl _, rfl⟩
                intro ρ rc rf rg re
                rw [re] at s38 s43 s47
                simp [execOp, go_sem, rc, rf, rg, s38, s43, s47, hq1, hq2, hq3, hT2] <;> first | omega | rfl | decide
              · -- 12: slot 49 := Op.binOp BinOp.add 9 t37 t48 9
                intro ra w' hx hs
                have s37 : ra.eval (.tmp 37) = .string T1 := hs.1
                have s48 : ra.eval (.tmp 48) = .string T2 := hs.2.1
                clear hs
                have x3 := hx.cell x3
                change Oper.wp _ _ ra w' _ _
                refine reg.wp_value (v := .string (T1 ++ T2)) (w' := w') ?_ ⟨_, rfl, reg.Ext.refl _, rfl⟩
                intro ρ rc rf rg re
                rw [re] at s37 s48
                simp [execOp, go_sem, rc, rf, rg, s37, s48, zt, hzx, hq5] <;> first | omega | rfl | decide
              · -- 13: slot 50 := Op.buildSlice 32 4 #[(0, const (Value.string { data := #[32] })), (1, const (Value.string { data := 
                intro ra w' hx hs
                clear hs
                have x3 := hx.cell x3
                change Oper.wp _ _ ra w' _ _
                refine reg.wp_value (v := .slice (some ⟨w'.heap.size, 0, none⟩) 4 4) (w' := w'.alloc (.cells sepCs 9 (0, 0))) ?_ ⟨_, rfl, (Below.refl _ _).alloc (Nat.le_refl _) _, _, rfl, blk_new _ _⟩
                intro ρ rc rf rg re
                simp [execOp, go_sem, rc, rf, rg] <;> first | omega | rfl | decide
              · -- 14: slot 51 := Op.move t1
                intro ra w' hx hs
                have s1 : ra.eval (.tmp 1) = .int .i64 pick := hs.1
                clear hs
                have x3 := hx.cell x3
                change Oper.wp _ _ ra w' _ _
                refine reg.wp_value (v := .int .i64 pick) (w' := w') ?_ ⟨_, rfl, reg.Ext.refl _, rfl⟩
                intro ρ rc rf rg re
                rw [re] at s1
                simp [execOp, go_sem, rc, rf, rg, s1] <;> first | omega | rfl | decide
              · -- 15: slot 52 := Op.binOp BinOp.and 3 t51 (const (255:i64)) 3
                intro ra w' hx hs
                have s51 : ra.eval (.tmp 51) = .int .i64 pick := hs.1
                clear hs
                have x3 := hx.cell x3
                change Oper.wp _ _ ra w' _ _
                refine reg.wp_value (v := .int .i64 P) (w' := w') ?_ ⟨_, rfl, reg.Ext.refl _, rfl⟩
                intro ρ rc rf rg re
                rw [re] at s51
                simp [execOp, go_sem, rc, rf, rg, s51, hPP] <;> first | omega | rfl | decide
              · -- 16: slot 53 := Op.move t9
                intro ra w' hx hs
                have s9 : ra.eval (.tmp 9) = .int .i64 i := hs.1
                clear hs
                have x3 := hx.cell x3
                change Oper.wp _ _ ra w' _ _
                refine reg.wp_value (v := .int .i64 i) (w' := w') ?_ ⟨_, rfl, reg.Ext.refl _, rfl⟩
                intro ρ rc rf rg re
                rw [re] at s9
                simp [execOp, go_sem, rc, rf, rg, s9] <;> first | omega | rfl | decide
              · -- 17: slot 54 := Op.binOp BinOp.add 3 t52 t53 3
                intro ra w' hx hs
                have s52 : ra.eval (.tmp 52) = .int .i64 P := hs.1
                have s53 : ra.eval (.tmp 53) = .int .i64 i := hs.2.1
                clear hs
                have x3 := hx.cell x3
                change Oper.wp _ _ ra w' _ _
                refine reg.wp_value (v := .int .i64 ((P + i : Nat) : Int)) (w' := w') ?_ ⟨_, rfl, reg.Ext.refl _, rfl⟩
                intro ρ rc rf rg re
                rw [re] at s52 s53
                simp [execOp, go_sem, rc, rf, rg, s52, s53, haw] <;> first | omega | rfl | decide
              · -- 18: slot 55 := Op.binOp BinOp.rem 3 t54 (const (4:i64)) 3
                intro ra w' hx hs
                have s54 : ra.eval (.tmp 54) = .int .i64 ((P + i : Nat) : Int) := hs.1
                clear hs
                have x3 := hx.cell x3
                change Oper.wp _ _ ra w' _ _
                refine reg.wp_value (v := .int .i64 (((P + i) % 4 : Nat) : Int)) (w' := w') ?_ ⟨_, rfl, reg.Ext.refl _, rfl⟩
                intro ρ rc rf rg re
                rw [re] at s54
                simp [execOp, go_sem, rc, rf, rg, s54, hmw] <;> first | omega | rfl | decide
              · -- 19: slot 56 := Op.indexAddr 32 t50 t55
                intro ra w' hx hs
                have s50 : ∃ g, (ra.eval (.tmp 50)) = .slice (some ⟨g, 0, none⟩) 4 4 ∧ w'.heap[g]? = some (.cells sepCs 9 (0, 0)) := hs.1
                have s55 : ra.eval (.tmp 55) = .int .i64 (((P + i) % 4 : Nat) : Int) := hs.2.1
                clear hs
                have x3 := hx.cell x3
                change Oper.wp _ _ ra w' _ _
                obtain ⟨g, hg, hg2⟩ := s50
                refine reg.wp_value (v := .pointer (some ⟨g, (P + i) % 4, none⟩)) (w' := w') ?_ ⟨_, rfl, reg.Ext.refl _, _, rfl, hg2⟩
                intro ρ rc rf rg re
                rw [re] at hg s55
                simp [execOp, go_sem, hg, s55, hm5, hm6]
              · -- 20: slot 57 := Op.load 9 t56
                intro ra w' hx hs
                have s56 : ∃ g, (ra.eval (.tmp 56)) = .pointer (some ⟨g, (P + i) % 4, none⟩) ∧ w'.heap[g]? = some (.cells sepCs 9 (0, 0)) := hs.1
                clear hs
                have x3 := hx.cell x3
                change Oper.wp _ _ ra w' _ _
                obtain ⟨g, hg, hg2⟩ := s56
                refine reg.wp_value (v := .string SP) (w' := w') ?_ ⟨_, rfl, reg.Ext.refl _, rfl⟩
                intro ρ rc rf rg re
                rw [re] at hg
                have hcl := (blk_cell hg2 ((P + i) % 4)).trans hsc
                simp [execOp, go_sem, hg, hcl]
              · -- 21: slot 58 := Op.binOp BinOp.add 9 t49 t57 9
                intro ra w' hx hs
                have s49 : ra.eval (.tmp 49) = .string (T1 ++ T2) := hs.1
                have s57 : ra.eval (.tmp 57) = .string SP := hs.2.1
                clear hs
                have x3 := hx.cell x3
                change Oper.wp _ _ ra w' _ _
                refine reg.wp_value (v := .string (T1 ++ T2 ++ SP)) (w' := w') ?_ ⟨_, rfl, reg.Ext.refl _, rfl⟩
                intro ρ rc rf rg re
                rw [re] at s49 s57
                simp [execOp, go_sem, rc, rf, rg, s49, s57, hz12, zt, hzx, zs, hq6] <;> first | omega | rfl | decide
              · -- 22: slot 8 := Op.assign t58
                intro ra w' hx hs
                have s58 : ra.eval (.tmp 58) = .string (T1 ++ T2 ++ SP) := hs.1
                clear hs
                have x3 := hx.cell x3
                change Oper.wp _ _ ra w' _ _
                refine reg.wp_value (v := .string (T1 ++ T2 ++ SP)) (w' := w') ?_ ⟨_, rfl, reg.Ext.refl _, rfl⟩
                intro ρ rc rf rg re
                rw [re] at s58
                simp [execOp, go_sem, rc, rf, rg, s58] <;> first | omega | rfl | decide
            intro rV w6 hx6 hf
            have ve0 : rV 0 = .string T1 := hf 0 (by decide)
            have ve1 : rV 1 = .string s := hf 1 (by decide)
            have ve2 : rV 2 = .slice (some ⟨g1, 0, none⟩) ts.length c1 := hf 2 (by decide)
            have ve3 : rV 3 = .int .i64 i := hf 3 (by decide)
            have ve4 : rV 4 = .pointer (some ⟨g1, i * 4, none⟩) := hf 4 (by decide)
            have ve5 : rV 5 = .pointer (some ⟨g1, i * 4 + 3, none⟩) := hf 5 (by decide)
            have ve6 : rV 6 = .int .i64 k := hf 6 (by decide)
            have ve7 : rV 7 = .string s := hf 7 (by decide)
            have ve8 : rV 8 = .slice (some ⟨g1, 0, none⟩) ts.length c1 := hf 8 (by decide)
            have ve9 : rV 9 = .int .i64 i := hf 9 (by decide)
            have ve10 : rV 10 = .int .i64 ((k + n : Nat) : Int) := hf 10 (by decide)
            have ve11 : rV 11 = .string T2 := hf 11 (by decide)
            have ve12 : rV 12 = .string (T1 ++ T2) := hf 12 (by decide)
            have ve13 := hf 13 (by decide)
            have ve14 : rV 14 = .int .i64 pick := hf 14 (by decide)
            have ve15 : rV 15 = .int .i64 P := hf 15 (by decide)
            have ve16 : rV 16 = .int .i64 i := hf 16 (by decide)
            have ve17 : rV 17 = .int .i64 ((P + i : Nat) : Int) := hf 17 (by decide)
            have ve18 : rV 18 = .int .i64 (((P + i) % 4 : Nat) : Int) := hf 18 (by decide)
            have ve19 := hf 19 (by decide)
            have ve20 : rV 20 = .string SP := hf 20 (by decide)
            have ve21 : rV 21 = .string (T1 ++ T2 ++ SP) := hf 21 (by decide)
            have ve22 : rV 22 = .string (T1 ++ T2 ++ SP) := hf 22 (by decide)
            clear hf
            simp only [List.zipIdx_cons, List.zipIdx_nil, List.foldl_cons, List.foldl_nil, Act.put, Nat.reduceAdd, List.setIfInBounds_toArray, List.set_cons_succ, List.set_cons_zero, ve0, ve1, ve2, ve3, ve4, ve5, ve6, ve7, ve8, ve9, ve10, ve11, ve12, ve14, ve15, ve16, ve17, ve18, ve20, ve21, ve22]
            clear ve0 ve1 ve2 ve3 ve4 ve5 ve6 ve7 ve8 ve9 ve10 ve11 ve12 ve14 ve15 ve16 ve17 ve18 ve20 ve21 ve22
            generalize rV 13 = v13 at *
            generalize rV 19 = v19 at *
            clear rV
            have HB6 : Hid (Below w2.heap.size w2 w6) := HBW.out.trans ((Below.trans (Below.drew (Below.refl _ _)) hx6).mono HBW.out.size)
            clear hx6 x3 hq1 hq2 hq3 hq5 hq6 hm5 hm6 hz12 hsc haw hmw zs zl hzx
            go_wp2_with fail
            go_roundw
            case rel => exact ⟨i + 1, k', f', tt ++ (s.data.toList.drop k).take n ++ sepL (P + i), by rw [HJM.out], by go_num, by omega, ⟨HN.out, HB6⟩⟩
            case measure => simp [intOf]; omega
        · have hltI : decide ((i : Int) + 1 < (ts.length : Int)) = false := decide_eq_false (by omega)
          have hfu : tt = FULL := HBL.out.done hlt
          have HBX := Lib.hid (HB2.out.trans (HBW.out.mono HB2.out.size))
          have HTT := Lib.hid (HT2.out ⟨tt.toArray⟩ wr HBX.out (by omega))
          have hx2 : scanL (⟨tt.toArray⟩ : ByteArray).data.toList = (us, 0, 0) := by
            show scanL tt = _
            rw [hfu]; exact HUS.out
          rw [hx2] at HTT
          simp only at HTT
          have HR4 := Lib.hid (HR2.out.below HBW.out)
          have hul := same_len HSM.out
          clear hfu hx2 HBL HBW HUS HT2
          go_wp2_with fail
          refine HTT.out.mono ?_; rintro e w5 ⟨v5, rfl, h5, -, hb5⟩
          have HU := Lib.hid (h5 (by first | rfl | trivial))
          have HR5 := Lib.hid (HR4.out.below hb5)
          have HB5 := Lib.hid (HBX.out.trans (hb5.mono HBX.out.size))
          obtain ⟨a2, c2, rfl⟩ := HU.out.slice
          rw [hul]
          clear h5 hb5 HTT HR4 HBX
          go_wp2_with (go_at_call 7; refine (Num_any _ _).mono ?_; rintro e w' ⟨rfl, rfl⟩)
          go_loopw [13] (fun vj wx => ∃ j : Nat, vj = .int .i64 j ∧ j ≤ ts.length ∧ Hid (Below w5.heap.size w5 wx)) (fun vj _ => ts.length - (intOf vj).toNat)
          case atStart => exact ⟨0, rfl, Nat.zero_le _, Below.refl _ _⟩
          case round =>
            obtain ⟨j, rfl, hj, HJ⟩ := hrel
            by_cases hlt2 : j < ts.length
            · have hjI : (j : Int) < (ts.length : Int) := by omega
              obtain ⟨t, ht⟩ : ∃ t, ts[j]? = some t := ⟨_, List.getElem?_eq_getElem hlt2⟩
              obtain ⟨u, hu, hk1, hk2⟩ := same_at HSM.out j t ht
              rcases (HR5.out.below HJ.out).cells with ⟨-, h0⟩ | ⟨g1, d1, hv1, hg1, -, hc1, hc1', hcell1⟩
              · rw [h0] at hlt2; simp at hlt2
              · rcases (HU.out.below HJ.out).cells with ⟨-, h0⟩ | ⟨g2, d2, hv2, hg2, -, hc2, hc2', hcell2⟩
                · rw [h0] at hul; simp at hul; omega
                · simp only [Value.slice.injEq] at hv1 hv2
                  obtain ⟨rfl, -, rfl⟩ := hv1
                  obtain ⟨rfl, -, rfl⟩ := hv2
                  rw [hul] at hc2
                  obtain ⟨x0, x1, -, -⟩ := hcell1 j t ht
                  obtain ⟨y0, y1, -, -⟩ := hcell2 j u hu
                  rw [hk1] at y0
                  rw [hk2] at y1
                  unfold maxLen at hc1' hc2'
                  clear hcell1 hcell2 ht hu hk1 hk2
                  generalize t.kind = kd at *
                  generalize t.text = tx at *
                  go_wp2_with fail
                  refine reg.region_each (by kernel_rfl) reg.Ext (fun ri v w' => match ri with
                      | 0 => v = .slice (some ⟨g1, 0, none⟩) ts.length c1
                      | 1 => v = .int .i64 j
                      | 2 => v = .pointer (some ⟨g1, j * 4, none⟩)
                      | 3 => v = .pointer (some ⟨g1, j * 4, none⟩)
                      | 4 => v = .int .i64 kd
                      | 5 => v = .slice (some ⟨g2, 0, none⟩) ts.length c2
                      | 6 => v = .int .i64 j
                      | 7 => v = .pointer (some ⟨g2, j * 4, none⟩)
                      | 8 => v = .pointer (some ⟨g2, j * 4, none⟩)
                      | 9 => v = .int .i64 kd
                      | 10 => v = .bool false
                      | 11 => v = .bool false
                      | 12 => v = .slice (some ⟨g1, 0, none⟩) ts.length c1
                      | 13 => v = .int .i64 j
                      | 14 => v = .pointer (some ⟨g1, j * 4, none⟩)
                      | 15 => v = .pointer (some ⟨g1, j * 4 + 1, none⟩)
                      | 16 => v = .string ⟨tx.toArray⟩
                      | 17 => v = .slice (some ⟨g2, 0, none⟩) ts.length c2
                      | 18 => v = .int .i64 j
                      | 19 => v = .pointer (some ⟨g2, j * 4, none⟩)
                      | 20 => v = .pointer (some ⟨g2, j * 4 + 1, none⟩)
                      | 21 => v = .string ⟨tx.toArray⟩
                      | 22 => v = .bool false
                      | 23 => v = .bool false
                      | _ => True) reg.Ext.refl reg.Ext.trans ?_ (by kernel_rfl) ?_ ?_
                  ·
                    intro i v w1 w2 h hx
                    rcases i with _|_|_|_|_|_|_|_|_|_|_|_|_|_|_|_|_|_|_|_|_|_|_|_|i
                    · exact h
                    · exact h
                    · exact h
                    · exact h
                    · exact h
                    · exact h
                    · exact h
                    · exact h
                    · exact h
                    · exact h
                    · exact h
                    · exact h
                    · exact h
                    · exact h
                    · exact h
                    · exact h
                    · exact h
                    · exact h
                    · exact h
                    · exact h
                    · exact h
                    · exact h
                    · exact h
                    · exact h
                    · trivial
                  ·
                    refine ⟨?_, ?_, ?_, ?_, ?_, ?_, ?_, ?_, ?_, ?_, ?_, ?_, ?_, ?_, ?_, ?_, ?_, ?_, ?_, ?_, ?_, ?_, ?_, ?_, trivial⟩
                    · -- 0: slot 81 := Op.move t5
                      intro ra w' hx hs
                      have s5 : ra.eval (.tmp 5) = .slice (some ⟨g1, 0, none⟩) ts.length c1 := hs.1
                      clear hs
                      have x0 := hx.cell x0
                      have x1 := hx.cell x1
                      have y0 := hx.cell y0
                      have y1 := hx.cell y1
                      change Oper.wp _ _ ra w' _ _
                      refine reg.wp_value (v := .slice (some ⟨g1, 0, none⟩) ts.length c1) (w' := w') ?_ ⟨_, rfl, reg.Ext.refl _, rfl⟩
                      intro ρ rc rf rg re
                      rw [re] at s5
                      simp [execOp, go_sem, rc, rf, rg, s5] <;> first | omega | rfl | decide
                    · -- 1: slot 82 := Op.move t13
                      intro ra w' hx hs
                      have s13 : ra.eval (.tmp 13) = .int .i64 j := hs.1
                      clear hs
                      have x0 := hx.cell x0
                      have x1 := hx.cell x1
                      have y0 := hx.cell y0
                      have y1 := hx.cell y1
                      change Oper.wp _ _ ra w' _ _
                      refine reg.wp_value (v := .int .i64 j) (w' := w') ?_ ⟨_, rfl, reg.Ext.refl _, rfl⟩
                      intro ρ rc rf rg re
                      rw [re] at s13
                      simp [execOp, go_sem, rc, rf, rg, s13] <;> first | omega | rfl | decide
                    · -- 2: slot 83 := Op.indexAddr 23 t81 t82
                      intro ra w' hx hs
                      have s81 : ra.eval (.tmp 81) = .slice (some ⟨g1, 0, none⟩) ts.length c1 := hs.1
                      have s82 : ra.eval (.tmp 82) = .int .i64 j := hs.2.1
                      clear hs
                      have x0 := hx.cell x0
                      have x1 := hx.cell x1
                      have y0 := hx.cell y0
                      have y1 := hx.cell y1
                      change Oper.wp _ _ ra w' _ _
                      refine reg.wp_value (v := .pointer (some ⟨g1, j * 4, none⟩)) (w' := w') ?_ ⟨_, rfl, reg.Ext.refl _, rfl⟩
                      intro ρ rc rf rg re
                      rw [re] at s81 s82
                      simp [execOp, go_sem, rc, rf, rg, s81, s82, hjI] <;> first | omega | rfl | decide
                    · -- 3: slot 84 := Op.fieldAddr 30 t83 0
                      intro ra w' hx hs
                      have s83 : ra.eval (.tmp 83) = .pointer (some ⟨g1, j * 4, none⟩) := hs.1
                      clear hs
                      have x0 := hx.cell x0
                      have x1 := hx.cell x1
                      have y0 := hx.cell y0
                      have y1 := hx.cell y1
                      change Oper.wp _ _ ra w' _ _
                      refine reg.wp_value (v := .pointer (some ⟨g1, j * 4, none⟩)) (w' := w') ?_ ⟨_, rfl, reg.Ext.refl _, rfl⟩
                      intro ρ rc rf rg re
                      rw [re] at s83
                      simp [execOp, go_sem, rc, rf, rg, s83] <;> first | omega | rfl | decide
                    · -- 4: slot 85 := Op.load 3 t84
                      intro ra w' hx hs
                      have s84 : ra.eval (.tmp 84) = .pointer (some ⟨g1, j * 4, none⟩) := hs.1
                      clear hs
                      have x0 := hx.cell x0
                      have x1 := hx.cell x1
                      have y0 := hx.cell y0
                      have y1 := hx.cell y1
                      change Oper.wp _ _ ra w' _ _
                      refine reg.wp_value (v := .int .i64 kd) (w' := w') ?_ ⟨_, rfl, reg.Ext.refl _, rfl⟩
                      intro ρ rc rf rg re
                      rw [re] at s84
                      simp [execOp, go_sem, rc, rf, rg, s84, x0] <;> first | omega | rfl | decide
                    · -- 5: slot 86 := Op.move t10
                      intro ra w' hx hs
                      have s10 : ra.eval (.tmp 10) = .slice (some ⟨g2, 0, none⟩) ts.length c2 := hs.1
                      clear hs
                      have x0 := hx.cell x0
                      have x1 := hx.cell x1
                      have y0 := hx.cell y0
                      have y1 := hx.cell y1
                      change Oper.wp _ _ ra w' _ _
                      refine reg.wp_value (v := .slice (some ⟨g2, 0, none⟩) ts.length c2) (w' := w') ?_ ⟨_, rfl, reg.Ext.refl _, rfl⟩
                      intro ρ rc rf rg re
                      rw [re] at s10
                      simp [execOp, go_sem, rc, rf, rg, s10] <;> first | omega | rfl | decide
                    · -- 6: slot 87 := Op.move t13
                      intro ra w' hx hs
                      have s13 : ra.eval (.tmp 13) = .int .i64 j := hs.1
                      clear hs
                      have x0 := hx.cell x0
                      have x1 := hx.cell x1
                      have y0 := hx.cell y0
                      have y1 := hx.cell y1
                      change Oper.wp _ _ ra w' _ _
                      refine reg.wp_value (v := .int .i64 j) (w' := w') ?_ ⟨_, rfl, reg.Ext.refl _, rfl⟩
                      intro ρ rc rf rg re
                      rw [re] at s13
                      simp [execOp, go_sem, rc, rf, rg, s13] <;> first | omega | rfl | decide
                    · -- 7: slot 88 := Op.indexAddr 23 t86 t87
                      intro ra w' hx hs
                      have s86 : ra.eval (.tmp 86) = .slice (some ⟨g2, 0, none⟩) ts.length c2 := hs.1
                      have s87 : ra.eval (.tmp 87) = .int .i64 j := hs.2.1
                      clear hs
                      have x0 := hx.cell x0
                      have x1 := hx.cell x1
                      have y0 := hx.cell y0
                      have y1 := hx.cell y1
                      change Oper.wp _ _ ra w' _ _
                      refine reg.wp_value (v := .pointer (some ⟨g2, j * 4, none⟩)) (w' := w') ?_ ⟨_, rfl, reg.Ext.refl _, rfl⟩
                      intro ρ rc rf rg re
                      rw [re] at s86 s87
                      simp [execOp, go_sem, rc, rf, rg, s86, s87, hjI] <;> first | omega | rfl | decide
                    · -- 8: slot 89 := Op.fieldAddr 30 t88 0
                      intro ra w' hx hs
                      have s88 : ra.eval (.tmp 88) = .pointer (some ⟨g2, j * 4, none⟩) := hs.1
                      clear hs
                      have x0 := hx.cell x0
                      have x1 := hx.cell x1
                      have y0 := hx.cell y0
                      have y1 := hx.cell y1
                      change Oper.wp _ _ ra w' _ _
                      refine reg.wp_value (v := .pointer (some ⟨g2, j * 4, none⟩)) (w' := w') ?_ ⟨_, rfl, reg.Ext.refl _, rfl⟩
                      intro ρ rc rf rg re
                      rw [re] at s88
                      simp [execOp, go_sem, rc, rf, rg, s88] <;> first | omega | rfl | decide
                    · -- 9: slot 90 := Op.load 3 t89
                      intro ra w' hx hs
                      have s89 : ra.eval (.tmp 89) = .pointer (some ⟨g2, j * 4, none⟩) := hs.1
                      clear hs
                      have x0 := hx.cell x0
                      have x1 := hx.cell x1
                      have y0 := hx.cell y0
                      have y1 := hx.cell y1
                      change Oper.wp _ _ ra w' _ _
                      refine reg.wp_value (v := .int .i64 kd) (w' := w') ?_ ⟨_, rfl, reg.Ext.refl _, rfl⟩
                      intro ρ rc rf rg re
                      rw [re] at s89
                      simp [execOp, go_sem, rc, rf, rg, s89, y0] <;> first | omega | rfl | decide
                    · -- 10: slot 91 := Op.binOp BinOp.neq 3 t85 t90 3
                      intro ra w' hx hs
                      have s85 : ra.eval (.tmp 85) = .int .i64 kd := hs.1
                      have s90 : ra.eval (.tmp 90) = .int .i64 kd := hs.2.1
                      clear hs
                      have x0 := hx.cell x0
                      have x1 := hx.cell x1
                      have y0 := hx.cell y0
                      have y1 := hx.cell y1
                      change Oper.wp _ _ ra w' _ _
                      refine reg.wp_value (v := .bool false) (w' := w') ?_ ⟨_, rfl, reg.Ext.refl _, rfl⟩
                      intro ρ rc rf rg re
                      rw [re] at s85 s90
                      simp [execOp, go_sem, rc, rf, rg, s85, s90] <;> first | omega | rfl | decide
                    · -- 11: slot 92 := Op.move t91
                      intro ra w' hx hs
                      have s91 : ra.eval (.tmp 91) = .bool false := hs.1
                      clear hs
                      have x0 := hx.cell x0
                      have x1 := hx.cell x1
                      have y0 := hx.cell y0
                      have y1 := hx.cell y1
                      change Oper.wp _ _ ra w' _ _
                      refine reg.wp_value (v := .bool false) (w' := w') ?_ ⟨_, rfl, reg.Ext.refl _, rfl⟩
                      intro ρ rc rf rg re
                      rw [re] at s91
                      simp [execOp, go_sem, rc, rf, rg, s91] <;> first | omega | rfl | decide
                    · -- 12: slot 93 := Op.move t5
                      intro ra w' hx hs
                      have s5 : ra.eval (.tmp 5) = .slice (some ⟨g1, 0, none⟩) ts.length c1 := hs.1
                      have s92 : ra.eval (.tmp 92) = .bool false := hs.2.1
                      clear hs
                      have x0 := hx.cell x0
                      have x1 := hx.cell x1
                      have y0 := hx.cell y0
                      have y1 := hx.cell y1
                      refine reg.want_yes rfl rfl rfl s92 rfl ?_
                      change Oper.wp _ _ ra w' _ _
                      refine reg.wp_value (v := .slice (some ⟨g1, 0, none⟩) ts.length c1) (w' := w') ?_ ⟨_, rfl, reg.Ext.refl _, rfl⟩
                      intro ρ rc rf rg re
                      rw [re] at s5 s92
                      simp [execOp, go_sem, rc, rf, rg, s5, s92] <;> first | omega | rfl | decide
                    · -- 13: slot 94 := Op.move t13
                      intro ra w' hx hs
                      have s13 : ra.eval (.tmp 13) = .int .i64 j := hs.1
                      have s92 : ra.eval (.tmp 92) = .bool false := hs.2.1
                      clear hs
                      have x0 := hx.cell x0
                      have x1 := hx.cell x1
                      have y0 := hx.cell y0
                      have y1 := hx.cell y1
                      refine reg.want_yes rfl rfl rfl s92 rfl ?_
                      change Oper.wp _ _ ra w' _ _
                      refine reg.wp_value (v := .int .i64 j) (w' := w') ?_ ⟨_, rfl, reg.Ext.refl _, rfl⟩
                      intro ρ rc rf rg re
                      rw [re] at s13 s92
                      simp [execOp, go_sem, rc, rf, rg, s13, s92] <;> first | omega | rfl | decide
                    · -- 14: slot 95 := Op.indexAddr 23 t93 t94
                      intro ra w' hx hs
                      have s93 : ra.eval (.tmp 93) = .slice (some ⟨g1, 0, none⟩) ts.length c1 := hs.1
                      have s94 : ra.eval (.tmp 94) = .int .i64 j := hs.2.1
                      have s92 : ra.eval (.tmp 92) = .bool false := hs.2.2.1
                      clear hs
                      have x0 := hx.cell x0
                      have x1 := hx.cell x1
                      have y0 := hx.cell y0
                      have y1 := hx.cell y1
                      refine reg.want_yes rfl rfl rfl s92 rfl ?_
                      change Oper.wp _ _ ra w' _ _
                      refine reg.wp_value (v := .pointer (some ⟨g1, j * 4, none⟩)) (w' := w') ?_ ⟨_, rfl, reg.Ext.refl _, rfl⟩
                      intro ρ rc rf rg re
                      rw [re] at s93 s94 s92
                      simp [execOp, go_sem, rc, rf, rg, s93, s94, s92, hjI] <;> first | omega | rfl | decide
                    · -- 15: slot 96 := Op.fieldAddr 30 t95 1
                      intro ra w' hx hs
                      have s95 : ra.eval (.tmp 95) = .pointer (some ⟨g1, j * 4, none⟩) := hs.1
                      have s92 : ra.eval (.tmp 92) = .bool false := hs.2.1
                      clear hs
                      have x0 := hx.cell x0
                      have x1 := hx.cell x1
                      have y0 := hx.cell y0
                      have y1 := hx.cell y1
                      refine reg.want_yes rfl rfl rfl s92 rfl ?_
                      change Oper.wp _ _ ra w' _ _
                      refine reg.wp_value (v := .pointer (some ⟨g1, j * 4 + 1, none⟩)) (w' := w') ?_ ⟨_, rfl, reg.Ext.refl _, rfl⟩
                      intro ρ rc rf rg re
                      rw [re] at s95 s92
                      simp [execOp, go_sem, rc, rf, rg, s95, s92] <;> first | omega | rfl | decide
                    · -- 16: slot 97 := Op.load 9 t96
                      intro ra w' hx hs
                      have s96 : ra.eval (.tmp 96) = .pointer (some ⟨g1, j * 4 + 1, none⟩) := hs.1
                      have s92 : ra.eval (.tmp 92) = .bool false := hs.2.1
                      clear hs
                      have x0 := hx.cell x0
                      have x1 := hx.cell x1
                      have y0 := hx.cell y0
                      have y1 := hx.cell y1
                      refine reg.want_yes rfl rfl rfl s92 rfl ?_
                      change Oper.wp _ _ ra w' _ _
                      refine reg.wp_value (v := .string ⟨tx.toArray⟩) (w' := w') ?_ ⟨_, rfl, reg.Ext.refl _, rfl⟩
                      intro ρ rc rf rg re
                      rw [re] at s96 s92
                      simp [execOp, go_sem, rc, rf, rg, s96, s92, x1] <;> first | omega | rfl | decide
                    · -- 17: slot 98 := Op.move t10
                      intro ra w' hx hs
                      have s10 : ra.eval (.tmp 10) = .slice (some ⟨g2, 0, none⟩) ts.length c2 := hs.1
                      have s92 : ra.eval (.tmp 92) = .bool false := hs.2.1
                      clear hs
                      have x0 := hx.cell x0
                      have x1 := hx.cell x1
                      have y0 := hx.cell y0
                      have y1 := hx.cell y1
                      refine reg.want_yes rfl rfl rfl s92 rfl ?_
                      change Oper.wp _ _ ra w' _ _
                      refine reg.wp_value (v := .slice (some ⟨g2, 0, none⟩) ts.length c2) (w' := w') ?_ ⟨_, rfl, reg.Ext.refl _, rfl⟩
                      intro ρ rc rf rg re
                      rw [re] at s10 s92
                      simp [execOp, go_sem, rc, rf, rg, s10, s92] <;> first | omega | rfl | decide
                    · -- 18: slot 99 := Op.move t13
                      intro ra w' hx hs
                      have s13 : ra.eval (.tmp 13) = .int .i64 j := hs.1
                      have s92 : ra.eval (.tmp 92) = .bool false := hs.2.1
                      clear hs
                      have x0 := hx.cell x0
                      have x1 := hx.cell x1
                      have y0 := hx.cell y0
                      have y1 := hx.cell y1
                      refine reg.want_yes rfl rfl rfl s92 rfl ?_
                      change Oper.wp _ _ ra w' _ _
                      refine reg.wp_value (v := .int .i64 j) (w' := w') ?_ ⟨_, rfl, reg.Ext.refl _, rfl⟩
                      intro ρ rc rf rg re
                      rw [re] at s13 s92
                      simp [execOp, go_sem, rc, rf, rg, s13, s92] <;> first | omega | rfl | decide
                    · -- 19: slot 100 := Op.indexAddr 23 t98 t99
                      intro ra w' hx hs
                      have s98 : ra.eval (.tmp 98) = .slice (some ⟨g2, 0, none⟩) ts.length c2 := hs.1
                      have s99 : ra.eval (.tmp 99) = .int .i64 j := hs.2.1
                      have s92 : ra.eval (.tmp 92) = .bool false := hs.2.2.1
                      clear hs
                      have x0 := hx.cell x0
                      have x1 := hx.cell x1
                      have y0 := hx.cell y0
                      have y1 := hx.cell y1
                      refine reg.want_yes rfl rfl rfl s92 rfl ?_
                      change Oper.wp _ _ ra w' _ _
                      refine reg.wp_value (v := .pointer (some ⟨g2, j * 4, none⟩)) (w' := w') ?_ ⟨_, rfl, reg.Ext.refl _, rfl⟩
                      intro ρ rc rf rg re
                      rw [re] at s98 s99 s92
                      simp [execOp, go_sem, rc, rf, rg, s98, s99, s92, hjI] <;> first | omega | rfl | decide
                    · -- 20: slot 101 := Op.fieldAddr 30 t100 1
                      intro ra w' hx hs
                      have s100 : ra.eval (.tmp 100) = .pointer (some ⟨g2, j * 4, none⟩) := hs.1
                      have s92 : ra.eval (.tmp 92) = .bool false := hs.2.1
                      clear hs
                      have x0 := hx.cell x0
                      have x1 := hx.cell x1
                      have y0 := hx.cell y0
                      have y1 := hx.cell y1
                      refine reg.want_yes rfl rfl rfl s92 rfl ?_
                      change Oper.wp _ _ ra w' _ _
                      refine reg.wp_value (v := .pointer (some ⟨g2, j * 4 + 1, none⟩)) (w' := w') ?_ ⟨_, rfl, reg.Ext.refl _, rfl⟩
                      intro ρ rc rf rg re
                      rw [re] at s100 s92
                      simp [execOp, go_sem, rc, rf, rg, s100, s92] <;> first | omega | rfl | decide
                    · -- 21: slot 102 := Op.load 9 t101
                      intro ra w' hx hs
                      have s101 : ra.eval (.tmp 101) = .pointer (some ⟨g2, j * 4 + 1, none⟩) := hs.1
                      have s92 : ra.eval (.tmp 92) = .bool false := hs.2.1
                      clear hs
                      have x0 := hx.cell x0
                      have x1 := hx.cell x1
                      have y0 := hx.cell y0
                      have y1 := hx.cell y1
                      refine reg.want_yes rfl rfl rfl s92 rfl ?_
                      change Oper.wp _ _ ra w' _ _
                      refine reg.wp_value (v := .string ⟨tx.toArray⟩) (w' := w') ?_ ⟨_, rfl, reg.Ext.refl _, rfl⟩
                      intro ρ rc rf rg re
                      rw [re] at s101 s92
                      simp [execOp, go_sem, rc, rf, rg, s101, s92, y1] <;> first | omega | rfl | decide
                    · -- 22: slot 103 := Op.binOp BinOp.neq 9 t97 t102 9
                      intro ra w' hx hs
                      have s97 : ra.eval (.tmp 97) = .string ⟨tx.toArray⟩ := hs.1
                      have s102 : ra.eval (.tmp 102) = .string ⟨tx.toArray⟩ := hs.2.1
                      have s92 : ra.eval (.tmp 92) = .bool false := hs.2.2.1
                      clear hs
                      have x0 := hx.cell x0
                      have x1 := hx.cell x1
                      have y0 := hx.cell y0
                      have y1 := hx.cell y1
                      refine reg.want_yes rfl rfl rfl s92 rfl ?_
                      change Oper.wp _ _ ra w' _ _
                      refine reg.wp_value (v := .bool false) (w' := w') ?_ ⟨_, rfl, reg.Ext.refl _, rfl⟩
                      intro ρ rc rf rg re
                      rw [re] at s97 s102 s92
                      simp [execOp, go_sem, rc, rf, rg, s97, s102, s92] <;> first | omega | rfl | decide
                    · -- 23: slot 104 := Op.pick t92 (const (Value.bool true)) t103
                      intro ra w' hx hs
                      have s92 : ra.eval (.tmp 92) = .bool false := hs.1
                      have s103 : ra.eval (.tmp 103) = .bool false := hs.2.1
                      clear hs
                      have x0 := hx.cell x0
                      have x1 := hx.cell x1
                      have y0 := hx.cell y0
                      have y1 := hx.cell y1
                      change Oper.wp _ _ ra w' _ _
                      refine reg.wp_value (v := .bool false) (w' := w') ?_ ⟨_, rfl, reg.Ext.refl _, rfl⟩
                      intro ρ rc rf rg re
                      rw [re] at s92 s103
                      simp [execOp, go_sem, rc, rf, rg, s92, s103] <;> first | omega | rfl | decide
                  intro rV w6 hx6 hf
                  have ve0 : rV 0 = .slice (some ⟨g1, 0, none⟩) ts.length c1 := hf 0 (by decide)
                  have ve1 : rV 1 = .int .i64 j := hf 1 (by decide)
                  have ve2 : rV 2 = .pointer (some ⟨g1, j * 4, none⟩) := hf 2 (by decide)
                  have ve3 : rV 3 = .pointer (some ⟨g1, j * 4, none⟩) := hf 3 (by decide)
                  have ve4 : rV 4 = .int .i64 kd := hf 4 (by decide)
                  have ve5 : rV 5 = .slice (some ⟨g2, 0, none⟩) ts.length c2 := hf 5 (by decide)
                  have ve6 : rV 6 = .int .i64 j := hf 6 (by decide)
                  have ve7 : rV 7 = .pointer (some ⟨g2, j * 4, none⟩) := hf 7 (by decide)
                  have ve8 : rV 8 = .pointer (some ⟨g2, j * 4, none⟩) := hf 8 (by decide)
                  have ve9 : rV 9 = .int .i64 kd := hf 9 (by decide)
                  have ve10 : rV 10 = .bool false := hf 10 (by decide)
                  have ve11 : rV 11 = .bool false := hf 11 (by decide)
                  have ve12 : rV 12 = .slice (some ⟨g1, 0, none⟩) ts.length c1 := hf 12 (by decide)
                  have ve13 : rV 13 = .int .i64 j := hf 13 (by decide)
                  have ve14 : rV 14 = .pointer (some ⟨g1, j * 4, none⟩) := hf 14 (by decide)
                  have ve15 : rV 15 = .pointer (some ⟨g1, j * 4 + 1, none⟩) := hf 15 (by decide)
                  have ve16 : rV 16 = .string ⟨tx.toArray⟩ := hf 16 (by decide)
                  have ve17 : rV 17 = .slice (some ⟨g2, 0, none⟩) ts.length c2 := hf 17 (by decide)
                  have ve18 : rV 18 = .int .i64 j := hf 18 (by decide)
                  have ve19 : rV 19 = .pointer (some ⟨g2, j * 4, none⟩) := hf 19 (by decide)
                  have ve20 : rV 20 = .pointer (some ⟨g2, j * 4 + 1, none⟩) := hf 20 (by decide)
                  have ve21 : rV 21 = .string ⟨tx.toArray⟩ := hf 21 (by decide)
                  have ve22 : rV 22 = .bool false := hf 22 (by decide)
                  have ve23 : rV 23 = .bool false := hf 23 (by decide)
                  clear hf
                  simp only [List.zipIdx_cons, List.zipIdx_nil, List.foldl_cons, List.foldl_nil, Act.put, Nat.reduceAdd, List.setIfInBounds_toArray, List.set_cons_succ, List.set_cons_zero, ve0, ve1, ve2, ve3, ve4, ve5, ve6, ve7, ve8, ve9, ve10, ve11, ve12, ve13, ve14, ve15, ve16, ve17, ve18, ve19, ve20, ve21, ve22, ve23]
                  clear ve0 ve1 ve2 ve3 ve4 ve5 ve6 ve7 ve8 ve9 ve10 ve11 ve12 ve13 ve14 ve15 ve16 ve17 ve18 ve19 ve20 ve21 ve22 ve23
                  clear rV
                  have HB6 : Hid (Below w5.heap.size w5 w6) := HJ.out.trans ((Below.trans (Below.drew (Below.refl _ _)) hx6).mono HJ.out.size)
                  clear hx6 x0 x1 y0 y1
                  go_wp2_with fail
                  go_roundw
                  case rel => exact ⟨j + 1, by go_num, by omega, HB6⟩
                  case measure => simp [intOf]; omega
            · go_wp2_with fail
              go_ret
              exact ⟨rfl, HB5.out.trans (HJ.out.mono HB5.out.size)⟩
  · have hb : (er != 0) = true := by rw [bne_iff_ne]; exact her
    go_wp2_with (go_at_call 7; refine (Num_any _ _).mono ?_; rintro e w' ⟨rfl, rfl⟩)
    go_ret
    exact ⟨rfl, HB2.out⟩
end Go.Proofs.YtjanpaallealgaaDoor.lex
