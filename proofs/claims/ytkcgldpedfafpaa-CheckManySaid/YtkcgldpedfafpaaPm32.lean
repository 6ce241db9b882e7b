/-
  Proved: CheckMany returns true. Conditions: as each theorem says.
-/
import Derived.Test.YtkcgldpedfafpaaPm30
import Derived.Test.YtkcgldpedfafpaaPm28
import Derived.Test.YtkcgldpedfafpaaPm31
namespace Go.Proofs.Ytkcgldpedfafpaa.chk
open Go.RowKit
open heap maps
open par (Nd KV Tr ndV ndC okStep okStage stmtsR TreeR ms)
open lex (run_store_float)
open many (fnL fnT envOf st0 chkS recipeR shortS frTs mkTs frT mkT frTs_snoc mkTs_snoc fr_len mk_len recT recM rec_len rec_ms rec_chk setT setTs setTs_len set_chk decT)
open num (decS decL)
set_option linter.unusedVariables false
set_option linter.unusedSimpArgs false
set_option maxRecDepth 100000
attribute [local go_sem] run_store_float

theorem andN (m : Nat) (hm : m < 64) (c : Int) : ∃ q : Nat, q ≤ m ∧ bits .and .i64 c (m : Int) = (q : Int) := by
  have h : (BitVec.ofInt 64 c &&& BitVec.ofInt 64 (m : Int)).toNat ≤ (BitVec.ofInt 64 (m : Int)).toNat := by
    rw [BitVec.toNat_and]; exact Nat.and_le_right
  have h2 : (BitVec.ofInt 64 (m : Int)).toNat = m := by
    rw [BitVec.toNat_ofInt]; omega
  rw [h2] at h
  refine ⟨(BitVec.ofInt 64 c &&& BitVec.ofInt 64 (m : Int)).toNat, h, ?_⟩
  show IntKind.i64.wrap ((BitVec.ofInt 64 c &&& BitVec.ofInt 64 (m : Int)).toNat : Int) = _
  generalize (BitVec.ofInt 64 c &&& BitVec.ofInt 64 (m : Int)).toNat = q at *
  exact IntWalk.i64_in _ (by omega)
theorem scr_anyM (l : List UInt8) (m : Nat) (r : Int × Int) (w : World) (hs : l.length ≤ 1000000000) (h : chkS l 1600024 m = some r) : Calls Try.prog 6 #[.string ⟨l.toArray⟩] w (ScrP r w) := by
  unfold chkS at h
  split at h
  · rename_i ks s hr
    split at h
    · rename_i hc
      refine (par.Script_any ⟨l.toArray⟩ w (by show l.toArray.size ≤ _; simpa using hs) 1600024 m ks s (by omega) (by simpa using hr)).mono ?_
      intro e w' ht
      rw [TreeR, if_pos hc] at ht
      obtain ⟨a, n, S, rfl, ⟨d, hk⟩, -, hb⟩ := ht
      refine ⟨_, a, n, S, d + 1, rfl, hk, hb, ?_⟩
      split at h <;> rename_i hn <;> rw [hn] <;> exact Option.some.inj h
    · cases h
  · cases h
theorem dec_all : ((List.range 52).all fun i => decL i == decT i) = true := by decide +kernel
theorem dec_is (i : Nat) (h : i < 52) : decL i = decT i := eq_of_beq (List.all_eq_true.1 dec_all i (List.mem_range.2 h))
theorem Decimal_at (i : Nat) (h : i < 52) (w : World) : Calls Try.prog 11 #[.int .i64 i] w fun e w' => e = .returned (.string ⟨(decT i).toArray⟩) ∧ Below w.heap.size w w' := by
  refine (num.Decimal_nat i (by omega) w).mono ?_
  rintro e w' ⟨rfl, hb⟩
  exact ⟨by rw [decS, dec_is i h], hb⟩
theorem decT_len (i : Nat) : (decT i).length ≤ 2 := by unfold decT; split <;> simp
set_option maxHeartbeats 4000000 in
theorem checkMany_any (z1 z2 z3 : Int) (w : World) :
    Calls Try.prog 4 #[.int .i64 z1, .int .i64 z2, .int .i64 z3] w fun e w' => e = .returned (.bool true) ∧ Below w.heap.size w w' := by
  go_enter Try.func4, Try.ntmps4
  go_wp2_with fail
  refine (awake_any _).mono ?_; rintro e w1 ⟨rfl, hb⟩
  have HB := Lib.hid hb
  clear hb
  obtain ⟨a, ha, hae⟩ := andN 15 (by omega) z1
  obtain ⟨b, hb, hbe⟩ := andN 63 (by omega) z2
  obtain ⟨c, hc, hce⟩ := andN 31 (by omega) z3
  go_upto_region 4 with fail
  have e1 : wrap64 (1 + bits .and .i64 z1 15) = ((a + 1 : Nat) : Int) := by
    rw [show bits .and .i64 z1 15 = (a : Int) from hae]; rw [IntWalk.wrap64_in _ (by omega)]; omega
  have e2 : bits .and .i64 z2 63 = (b : Int) := hbe
  have e3 : wrap64 (20 + bits .and .i64 z3 31) = ((20 + c : Nat) : Int) := by
    rw [show bits .and .i64 z3 31 = (c : Int) from hce]; rw [IntWalk.wrap64_in _ (by omega)]; omega
  rw [e1, e2, e3]
  clear hae hbe hce e1 e2 e3
  go_wp2_with fail
  go_loopg [10, 11] (a + 1) (fun kk v10 v11 wr => ∃ i : Nat, i + kk = a + 1 ∧ v10 = .string ⟨(frTs i).toArray⟩ ∧ v11 = .int .i64 i ∧ w1 = wr)
  case atStart => exact ⟨0, by omega, rfl, rfl, rfl⟩
  case round =>
    obtain ⟨i, hik, rfl, rfl, rfl⟩ := hrel
    by_cases hlt : i < a + 1
    · cases gk with
      | zero => omega
      | succ gk =>
      have hlen : (frTs i).length ≤ 1000 := by rw [fr_len]; omega
      have HN := Lib.hid (frTs_snoc i)
      generalize frTs i = q at *
      go_wp2_with fail
      go_roundg gk
      case rel => exact ⟨i + 1, by omega, by rw [HN.out, ← bapp]; rfl, by go_num, rfl⟩
      case measure => omega
    · have hik2 : i = a + 1 := by omega
      subst hik2
      have hlt2 : decide (((a + 1 : Nat) : Int) < ((a + 1 : Nat) : Int)) = false := by simp
      go_wp2_with fail
      go_loopg [10, 12] b (fun kk v10 v12 wr => ∃ i : Nat, i + kk = b ∧ v10 = .string ⟨(frTs (a + 1) ++ mkTs i).toArray⟩ ∧ v12 = .int .i64 i ∧ w1 = wr)
      case atStart => exact ⟨0, by omega, by rw [mkTs, List.append_nil], rfl, rfl⟩
      case round =>
        obtain ⟨i, hik, rfl, rfl, rfl⟩ := hrel
        by_cases hlt : i < b
        · cases gk with
          | zero => omega
          | succ gk =>
          have hlen : (frTs (a + 1) ++ mkTs i).length ≤ 1000 := by rw [List.length_append, fr_len, mk_len]; omega
          have hsn : frTs (a + 1) ++ mkTs (i + 1) = (frTs (a + 1) ++ mkTs i) ++ mkT := by rw [mkTs_snoc, List.append_assoc]
          have HN := Lib.hid hsn
          clear hsn
          generalize frTs (a + 1) ++ mkTs i = q at *
          go_wp2_with fail
          go_roundg gk
          case rel => exact ⟨i + 1, by omega, by rw [HN.out, ← bapp]; rfl, by go_num, rfl⟩
          case measure => omega
        · have hik2 : i = b := by omega
          subst hik2
          have hlen : (frTs (a + 1) ++ mkTs i).length ≤ 1000 := by rw [List.length_append, fr_len, mk_len]; omega
          change Code.wp _ _ _ _ _
          rw [show frTs (a + 1) ++ mkTs i = recT a i from rfl]
          have HRC := Lib.hid (fun W => rec_any (recT a i) (recM a i) W (by rw [rec_len]; omega) (rec_ms a i (by omega) (by omega)) (rec_chk a i (by omega) (by omega)))
          obtain ⟨rx, re, hr⟩ : ∃ rx re : Int, recM a i = (rx, re) := ⟨_, _, rfl⟩
          rw [hr] at HRC
          have HR := Lib.hid hr
          clear hr
          generalize recT a i = q at *
          go_wp2_with fail
          refine (HRC.out _).mono ?_; rintro e w2 ⟨x, a2, n2, S2, d2, rfl, hk, hb, hok, htx, hr⟩
          have HC := Lib.hid (fun W hk => cRecipe_any x d2 a2 n2 S2 W hk hok htx)
          rw [hr] at HC
          have HK := Lib.hid hk
          have HB2 := Lib.hid (HB.out.trans (hb.mono HB.out.size))
          clear hk hb hr HRC hok htx HB
          go_wp2_with fail
          refine (HC.out _ (HK.out.below ((Below.refl _ _).alloc (Nat.le_refl _) _))).mono ?_; rintro e w3 ⟨rfl, hb⟩
          have HB3 := Lib.hid ((HB2.out.alloc HB2.out.size (nodO x (.slice a2 x.kids.length n2))).trans (hb.mono (by have := HB2.out.size; simp; omega)))
          clear hb HC HK HB2
          go_wp2_with fail
          go_loopg [18, 19] (20 + c) (fun kk v18 v19 wr => ∃ j : Nat, j + kk = 20 + c ∧ v18 = .string ⟨(setTs j).toArray⟩ ∧ v19 = .int .i64 j ∧ Below w.heap.size w wr)
          case atStart => exact ⟨0, by omega, rfl, rfl, HB3.out⟩
          case round =>
            clear HB3
            obtain ⟨j, hjk, rfl, rfl, hbl⟩ := hrel
            have HB4 := Lib.hid hbl
            clear hbl
            by_cases hlt : j < 20 + c
            · cases gk with
              | zero => omega
              | succ gk =>
              have hlen : (setTs j).length ≤ 1000 := by have := setTs_len j; omega
              have hsn : setTs (j + 1) = setTs j ++ [115, 101, 116, 32, 118] ++ decT j ++ [32, 61, 32, 49, 59, 32] := by rw [setTs, setT]; simp only [List.append_assoc]
              have hdl := decT_len j
              have HD := Lib.hid (fun W => Decimal_at j (by omega) W)
              have HN := Lib.hid hsn
              clear hsn
              generalize setTs j = q2 at *
              generalize decT j = dd at *
              go_wp2_with fail
              refine (HD.out _).mono ?_; rintro e w5 ⟨rfl, hb⟩
              have HB5 := Lib.hid (HB4.out.trans (hb.mono HB4.out.size))
              clear hb HB4 HD
              go_wp2_with fail
              go_roundg gk
              case rel => exact ⟨j + 1, by omega, by rw [HN.out, ← bapp, ← bapp, ← bapp], by go_num, HB5.out⟩
              case measure => omega
            · have hjk2 : j = 20 + c := by omega
              subst hjk2
              have hsl : (setTs (20 + c)).length ≤ 1000 := by have := setTs_len (20 + c); omega
              obtain ⟨ax, ex, hs1, hs2, hs3⟩ := set_chk (20 + c) (by omega) (by omega)
              have HSC := Lib.hid (fun W => scr_anyM (setTs (20 + c)) 60 (ax, ex) W (by omega) hs1)
              clear hs1
              generalize setTs (20 + c) = q2 at *
              go_wp2_with fail
              refine (HSC.out _).mono ?_; rintro e w6 ⟨x2, a3, n3, S3, d3, rfl, hk, hb, hr⟩
              have HC := Lib.hid (fun W hk => cScript_any x2 d3 a3 n3 S3 W hk)
              rw [hr] at HC
              have HK := Lib.hid hk
              have HB6 := Lib.hid (HB4.out.trans (hb.mono HB4.out.size))
              clear hk hb hr HSC HB4
              go_wp2_with fail
              refine (HC.out _ (HK.out.below ((Below.refl _ _).alloc (Nat.le_refl _) _))).mono ?_; rintro e w7 ⟨rfl, hb⟩
              have HB7 := Lib.hid ((HB6.out.alloc HB6.out.size (nodO x2 (.slice a3 x2.kids.length n3))).trans (hb.mono (by have := HB6.out.size; simp; omega)))
              clear hb HC HK HB6
              have hr := HR.out
              clear HR
              unfold recM at hr
              by_cases hc12 : 20 + c ≤ 32
              · obtain ⟨rfl, rfl⟩ := hs2 hc12
                clear hs2 hs3
                by_cases ha8 : 8 < a + 1
                · rw [if_pos ha8] at hr
                  cases hr
                  go_wp2_with fail
                  refine (Num_any _ _).mono ?_; rintro e w' ⟨rfl, rfl⟩
                  go_wp2_with fail
                  refine (Num_any _ _).mono ?_; rintro e w' ⟨rfl, rfl⟩
                  go_wp2_with fail
                  go_ret
                  exact ⟨rfl, HB7.out⟩
                · rw [if_neg ha8] at hr
                  by_cases hb32 : 32 < i
                  · rw [if_pos hb32] at hr
                    cases hr
                    go_wp2_with fail
                    refine (Num_any _ _).mono ?_; rintro e w' ⟨rfl, rfl⟩
                    go_wp2_with fail
                    refine (Num_any _ _).mono ?_; rintro e w' ⟨rfl, rfl⟩
                    go_wp2_with fail
                    go_ret
                    exact ⟨rfl, HB7.out⟩
                  · rw [if_neg hb32] at hr
                    cases hr
                    go_wp2_with fail
                    refine (Num_any _ _).mono ?_; rintro e w' ⟨rfl, rfl⟩
                    go_wp2_with fail
                    refine (Num_any _ _).mono ?_; rintro e w' ⟨rfl, rfl⟩
                    go_wp2_with fail
                    go_ret
                    exact ⟨rfl, HB7.out⟩
              · obtain ⟨rfl, hax⟩ := hs3 (by omega)
                clear hs2 hs3
                by_cases ha8 : 8 < a + 1
                · rw [if_pos ha8] at hr
                  cases hr
                  go_wp2_with fail
                  refine (Num_any _ _).mono ?_; rintro e w' ⟨rfl, rfl⟩
                  go_wp2_with fail
                  refine (Num_any _ _).mono ?_; rintro e w' ⟨rfl, rfl⟩
                  go_wp2_with fail
                  refine (Num_any _ _).mono ?_; rintro e w' ⟨rfl, rfl⟩
                  go_wp2_with fail
                  go_ret
                  exact ⟨rfl, HB7.out⟩
                · rw [if_neg ha8] at hr
                  by_cases hb32 : 32 < i
                  · rw [if_pos hb32] at hr
                    cases hr
                    go_wp2_with fail
                    refine (Num_any _ _).mono ?_; rintro e w' ⟨rfl, rfl⟩
                    go_wp2_with fail
                    refine (Num_any _ _).mono ?_; rintro e w' ⟨rfl, rfl⟩
                    go_wp2_with fail
                    refine (Num_any _ _).mono ?_; rintro e w' ⟨rfl, rfl⟩
                    go_wp2_with fail
                    go_ret
                    exact ⟨rfl, HB7.out⟩
                  · rw [if_neg hb32] at hr
                    cases hr
                    go_wp2_with fail
                    refine (Num_any _ _).mono ?_; rintro e w' ⟨rfl, rfl⟩
                    go_wp2_with fail
                    refine (Num_any _ _).mono ?_; rintro e w' ⟨rfl, rfl⟩
                    go_wp2_with fail
                    refine (Num_any _ _).mono ?_; rintro e w' ⟨rfl, rfl⟩
                    go_wp2_with fail
                    go_ret
                    exact ⟨rfl, HB7.out⟩
end Go.Proofs.Ytkcgldpedfafpaa.chk
