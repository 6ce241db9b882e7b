/-
  Proved: what the document's own powers, long and OfText return. Conditions: as each theorem says.
  Proved: what the document's own OfText returns (its ways written by wip/bin/rof.py). Conditions: as each theorem says.
-/
import Derived.Test.YtmfpmandkhiknaaGreatDoorPw27
set_option linter.unusedVariables false
set_option linter.unusedSimpArgs false
namespace Go.Proofs.YtmfpmandkhiknaaGreatDoor.flt
open Go.RowKit Ieee
open num (ofDecV ofDecX ofDecE rOfDec_any ofDec_no ofDec_yes ret_pair)
set_option maxRecDepth 100000
theorem ext_drop (l:List UInt8) (a n:Nat) (hn:n = l.length):(⟨l.toArray⟩:ByteArray).extract a n = ⟨(l.drop a).toArray⟩:=by
 subst hn
 apply ByteArray.ext
 rw [ByteArray.data_extract]
 apply Array.toList_inj.1
 simp [List.extract_eq_take_drop]
 rw [List.take_of_length_le (by simp)]
theorem ext_take (l:List UInt8) (a:Nat):(⟨l.toArray⟩:ByteArray).extract 0 a = ⟨(l.take a).toArray⟩:=by
 apply ByteArray.ext
 rw [ByteArray.data_extract]
 apply Array.toList_inj.1
 simp [List.extract_eq_take_drop]
def rpowP (l:List UInt8):Nat × Bool:=
 if dg l = 0 ∨ 16 < dg l ∨ l.length ≤ dg l ∨ l.getD (dg l) 0 ≠ 112 then (0,false) else
 if (Lib.trimPrefix (l.drop (dg l + 1)) [45]).length < 1 ∨ 4 < (Lib.trimPrefix (l.drop (dg l + 1)) [45]).length ∨ dg (Lib.trimPrefix (l.drop (dg l + 1)) [45]) ≠ (Lib.trimPrefix (l.drop (dg l + 1)) [45]).length then (0,false) else
 match ofDecV (l.take (dg l)),ofDecV (Lib.trimPrefix (l.drop (dg l + 1)) [45]) with
 | some m,some x=>(itr (Lib.hasPrefix (l.drop (dg l + 1)) [45]) x (fl m),(txt (itr (Lib.hasPrefix (l.drop (dg l + 1)) [45]) x (fl m))).data.toList == l)
 | _,_=>(0,false)
theorem dec4 {t:List UInt8} {x:Nat} (h:ofDecV t = some x) (hl:t.length ≤ 4):x ≤ 9999:=by
 obtain ⟨h1,h2,_⟩:=ofDecV_all h
 have:=numL_lt t h1
 have h3:10 ^ t.length ≤ 10 ^ 4:=Nat.pow_le_pow_right (by omega) hl
 omega
theorem pre_head (t:List UInt8):Lib.hasPrefix t [45] = true ↔ ∃ r,t = 45 :: r:=by
 unfold Lib.hasPrefix
 cases t with
 | nil=>simp
 | cons c r =>
  simp [List.isPrefixOf]
  exact ⟨fun h=>h.symm,fun h=>h.symm⟩
theorem ofDec_both (s:List UInt8) (hs:s.length ≤ 9000000000000000000):(∃ m,ofDecV s = some m ∧ Hid (∀ W,Calls Tryz.prog 198 #[.string ⟨s.toArray⟩] W fun e w'=>e = .returned (.tuple #[.int .u64 m,.int .i64 0]) ∧ W = w')) ∨
  (ofDecV s = none ∧ Hid (∀ W,Calls Tryz.prog 198 #[.string ⟨s.toArray⟩] W fun e w'=>e = .returned (.tuple #[.int .u64 (0:Nat),.int .i64 101]) ∧ W = w')):=by
 have h:=fun W=>rOfDec_any ⟨s.toArray⟩ W (by rw [str_size];unfold maxLen;omega)
 cases hv:ofDecV s with
 | none =>
  right
  refine ⟨rfl,fun W => ?_⟩
  have:=h W
  rw [(ofDec_no (l:=s) hv).1,(ofDec_no (l:=s) hv).2] at this
  exact this
 | some m =>
  left
  refine ⟨m,rfl,fun W => ?_⟩
  have:=h W
  rw [(ofDec_yes (l:=s) hv).1,(ofDec_yes (l:=s) hv).2] at this
  exact this
theorem powers_all (l:List UInt8) (w:World) (hs:l.length ≤ 1000000000000000000) :
  Calls Tryz.prog 180 #[.string ⟨l.toArray⟩] w fun e w'=>e = .returned (.tuple #[fv (rpowP l).1,.bool (rpowP l).2]) ∧ Below w.heap.size w w':=by
 have hS:(⟨l.toArray⟩:ByteArray).size = l.length:=str_size l
 have HD:Hid (∀ W,Calls Tryz.prog 197 #[.string ⟨l.toArray⟩,.int .i64 0] W fun e w'=>e = .returned (.int .i64 ((dg l:Nat):Int)) ∧ W = w'):=
  fun W=>(rdigits_any ⟨l.toArray⟩ 0 W (Nat.zero_le _) (by rw [hS];omega))
 have hz:(⟨l.toArray⟩:ByteArray).size ≤ 1000000000000000001:=by rw [hS];omega
 have no:rpowP l = (0,false) → Calls Tryz.prog 180 #[.string ⟨l.toArray⟩] w (fun e w'=>e = .returned (.tuple #[fv 0,.bool false]) ∧ w = w') → Calls Tryz.prog 180 #[.string ⟨l.toArray⟩] w (fun e w'=>e = .returned (.tuple #[fv (rpowP l).1,.bool (rpowP l).2]) ∧ Below w.heap.size w w'):=fun h1 h2=>by
  rw [h1]
  exact h2.mono fun e w' ⟨h3,h4⟩=>⟨h3,by rw [← h4];exact Below.refl _ _⟩
 have hdl:=dg_le l
 by_cases c1:dg l = 0 ∨ 16 < dg l ∨ l.length ≤ dg l ∨ l.getD (dg l) 0 ≠ 112
 ·refine no (by unfold rpowP;rw [if_pos c1]) ?_
  by_cases h1:dg l = 0
  ·exact pow_k0 _ _ w hz HD h1
  ·by_cases h2:16 < dg l
   ·exact pow_k16 _ _ w hz HD (by omega) h2 (by rw [hS];exact hdl)
   ·by_cases h3:l.length ≤ dg l
    ·exact pow_end _ _ w hz HD (by omega) (by omega) (by rw [hS];omega)
    ·have h4:l.getD (dg l) 0 ≠ 112:=by
      rcases c1 with c | c | c | c
      ·exact absurd c h1
      ·exact absurd c h2
      ·exact absurd c h3
      ·exact c
     have hk:dg l < (⟨l.toArray⟩:ByteArray).size:=by rw [hS];omega
     refine pow_p _ _ w hz HD (by omega) (by omega) hk ?_
     rw [← get_list (SS:=⟨l.toArray⟩) (L:=l) rfl (dg l) hk,bne_iff_ne]
     intro e
     apply h4
     apply UInt8.toNat_inj.1
     have:(112:UInt8).toNat = 112:=rfl
     rw [this];omega
 ·have hk:dg l < (⟨l.toArray⟩:ByteArray).size:=by rw [hS];omega
  have h112:l.getD (dg l) 0 = 112:=Classical.byContradiction fun h=>c1 (.inr (.inr (.inr h)))
  have hp:(((⟨l.toArray⟩:ByteArray)[dg l].toNat:Int) != 112) = false:=by
   rw [← get_list (SS:=⟨l.toArray⟩) (L:=l) rfl (dg l) hk,h112];rfl
  have hT0:=ext_drop l (dg l + 1) _ hS
  have h0:0 < dg l:=by omega
  have h16:dg l ≤ 16:=by omega
  have hF:=ext_take l (dg l)
  have hfl:(l.take (dg l)).length ≤ 9000000000000000000:=by rw [List.length_take];omega
  have e0:rpowP l = (if (Lib.trimPrefix (l.drop (dg l + 1)) [45]).length < 1 ∨ 4 < (Lib.trimPrefix (l.drop (dg l + 1)) [45]).length ∨ dg (Lib.trimPrefix (l.drop (dg l + 1)) [45]) ≠ (Lib.trimPrefix (l.drop (dg l + 1)) [45]).length then (0,false) else
 match ofDecV (l.take (dg l)),ofDecV (Lib.trimPrefix (l.drop (dg l + 1)) [45]) with
 | some m,some x=>(itr (Lib.hasPrefix (l.drop (dg l + 1)) [45]) x (fl m),(txt (itr (Lib.hasPrefix (l.drop (dg l + 1)) [45]) x (fl m))).data.toList == l)
 | _,_=>(0,false)):=by unfold rpowP;rw [if_neg c1]
  have ht0:(l.drop (dg l + 1)).length ≤ 1000000000000000001:=by rw [List.length_drop];omega
  have hcmp:∀ a,((txt a).toList == (⟨l.toArray⟩:ByteArray).toList) = ((txt a).data.toList == l):=fun a=>by rw [Lib.toList_data,Lib.toList_data]
  generalize dg l = k at *
  generalize l.drop (k + 1) = t0 at *
  have hz0:(⟨t0.toArray⟩:ByteArray).size = t0.length:=str_size t0
  cases hneg:Lib.hasPrefix t0 [45]
  ·have htr:Lib.trimPrefix t0 [45] = t0:=by unfold Lib.trimPrefix;rw [hneg];rfl
   rw [htr,hneg] at e0
   by_cases hl0:t0.length = 0
   ·refine no (by rw [e0,if_pos (.inl (by omega))]) (pow_T0 _ _ w hz HD h0 h16 hk hp _ hT0 (by rw [hz0];exact hl0))
   ·have hh0:0 < (⟨t0.toArray⟩:ByteArray).size:=by rw [hz0];omega
    have hh:(((⟨t0.toArray⟩:ByteArray)[0].toNat:Int) == 45) = false:=by
     rw [← get_list (SS:=⟨t0.toArray⟩) (L:=t0) rfl 0 hh0]
     refine beq_eq_false_iff_ne.2 fun e => ?_
     have:Lib.hasPrefix t0 [45] = true:=by
      rw [pre_head]
      cases t0 with
      | nil=>simp at hl0
      | cons c r =>
       refine ⟨r,?_⟩
       have:c = 45:=by
        apply UInt8.toNat_inj.1
        have e45:(45:UInt8).toNat = 45:=rfl
        have e2:((c.toNat:Nat):Int) = 45:=e
        omega
       rw [this]
     rw [hneg] at this;cases this
    have hDT:Hid (∀ W,Calls Tryz.prog 197 #[.string ⟨t0.toArray⟩,.int .i64 0] W fun e w'=>e = .returned (.int .i64 ((dg t0:Nat):Int)) ∧ W = w'):=
     fun W=>(rdigits_any ⟨t0.toArray⟩ 0 W (Nat.zero_le _) (by rw [hz0];omega))
    have hdt:=dg_le t0
    by_cases h4:4 < t0.length
    ·exact no (by rw [e0,if_pos (.inr (.inl h4))]) (pow_T4_p _ _ w hz HD h0 h16 hk hp _ hT0 _ hh0 (by rw [hz0];exact ht0) hh rfl (by rw [hz0];exact h4))
    ·by_cases hd:dg t0 = t0.length
     ·rw [if_neg (by omega)] at e0
      rcases ofDec_both (l.take k) hfl with ⟨m,hm,HF⟩ | ⟨hm,HF⟩
      ·rcases ofDec_both t0 (by omega) with ⟨x,hx,HX⟩ | ⟨hx,HX⟩
       ·rw [hm,hx] at e0
        rw [e0]
        refine (pow_ok_p _ _ w hz HD h0 h16 hk hp _ hT0 _ hh0 (by rw [hz0];exact ht0) hh rfl (dg t0) (by rw [hz0];omega) (by rw [hz0];omega) hDT (by rw [hz0];exact hd) _ hF m x 0 0 HF HX rfl rfl (dec4 hx (by omega))).mono fun e w' h=>⟨h.1.trans ?_,h.2⟩
        rw [hcmp]
       ·exact no (by rw [e0,hm,hx]) (pow_E2_p _ _ w hz HD h0 h16 hk hp _ hT0 _ hh0 (by rw [hz0];exact ht0) hh rfl (dg t0) (by rw [hz0];omega) (by rw [hz0];omega) hDT (by rw [hz0];exact hd) _ hF m 0 0 101 HF HX rfl rfl)
      ·rcases ofDec_both t0 (by omega) with ⟨x,hx,HX⟩ | ⟨hx,HX⟩
       ·exact no (by rw [e0,hm]) (pow_E1_p _ _ w hz HD h0 h16 hk hp _ hT0 _ hh0 (by rw [hz0];exact ht0) hh rfl (dg t0) (by rw [hz0];omega) (by rw [hz0];omega) hDT (by rw [hz0];exact hd) _ hF 0 x 101 0 HF HX rfl)
       ·exact no (by rw [e0,hm]) (pow_E1_p _ _ w hz HD h0 h16 hk hp _ hT0 _ hh0 (by rw [hz0];exact ht0) hh rfl (dg t0) (by rw [hz0];omega) (by rw [hz0];omega) hDT (by rw [hz0];exact hd) _ hF 0 0 101 101 HF HX rfl)
     ·exact no (by rw [e0,if_pos (.inr (.inr hd))]) (pow_Td_p _ _ w hz HD h0 h16 hk hp _ hT0 _ hh0 (by rw [hz0];exact ht0) hh rfl (dg t0) (by rw [hz0];omega) (by rw [hz0];omega) hDT (by rw [hz0];omega))
  ·obtain ⟨t,rfl⟩:=(pre_head t0).1 hneg
   have htr:Lib.trimPrefix (45 :: t) [45] = t:=by unfold Lib.trimPrefix;rw [hneg];rfl
   rw [htr,hneg] at e0
   have hh0:0 < (⟨(45 :: t).toArray⟩:ByteArray).size:=by rw [hz0];simp
   have hh:(((⟨(45 :: t).toArray⟩:ByteArray)[0].toNat:Int) == 45) = true:=rfl
   have hT:=ext_drop (45 :: t) 1 _ hz0
   have hT:(⟨(45 :: t).toArray⟩:ByteArray).extract 1 (⟨(45 :: t).toArray⟩:ByteArray).size = ⟨t.toArray⟩:=hT
   have hz1:(⟨t.toArray⟩:ByteArray).size = t.length:=str_size t
   have ht1:t.length ≤ 1000000000000000000:=by rw [List.length_cons] at ht0;omega
   have hDT:Hid (∀ W,Calls Tryz.prog 197 #[.string ⟨t.toArray⟩,.int .i64 0] W fun e w'=>e = .returned (.int .i64 ((dg t:Nat):Int)) ∧ W = w'):=
    fun W=>(rdigits_any ⟨t.toArray⟩ 0 W (Nat.zero_le _) (by rw [hz1];omega))
   have hdt:=dg_le t
   by_cases hl1:t.length < 1
   ·exact no (by rw [e0,if_pos (.inl hl1)]) (pow_T1_n _ _ w hz HD h0 h16 hk hp _ hT0 _ hh0 (by rw [hz0];exact ht0) hh hT (by rw [hz1];omega))
   ·by_cases h4:4 < t.length
    ·exact no (by rw [e0,if_pos (.inr (.inl h4))]) (pow_T4_n _ _ w hz HD h0 h16 hk hp _ hT0 _ hh0 (by rw [hz0];exact ht0) hh hT (by rw [hz1];exact h4))
    ·by_cases hd:dg t = t.length
     ·rw [if_neg (by omega)] at e0
      rcases ofDec_both (l.take k) hfl with ⟨m,hm,HF⟩ | ⟨hm,HF⟩
      ·rcases ofDec_both t (by omega) with ⟨x,hx,HX⟩ | ⟨hx,HX⟩
       ·rw [hm,hx] at e0
        rw [e0]
        refine (pow_ok_n _ _ w hz HD h0 h16 hk hp _ hT0 _ hh0 (by rw [hz0];exact ht0) hh hT (dg t) (by rw [hz1];omega) (by rw [hz1];omega) hDT (by rw [hz1];exact hd) _ hF m x 0 0 HF HX rfl rfl (dec4 hx (by omega))).mono fun e w' h=>⟨h.1.trans ?_,h.2⟩
        rw [hcmp]
       ·exact no (by rw [e0,hm,hx]) (pow_E2_n _ _ w hz HD h0 h16 hk hp _ hT0 _ hh0 (by rw [hz0];exact ht0) hh hT (dg t) (by rw [hz1];omega) (by rw [hz1];omega) hDT (by rw [hz1];exact hd) _ hF m 0 0 101 HF HX rfl rfl)
      ·rcases ofDec_both t (by omega) with ⟨x,hx,HX⟩ | ⟨hx,HX⟩
       ·exact no (by rw [e0,hm]) (pow_E1_n _ _ w hz HD h0 h16 hk hp _ hT0 _ hh0 (by rw [hz0];exact ht0) hh hT (dg t) (by rw [hz1];omega) (by rw [hz1];omega) hDT (by rw [hz1];exact hd) _ hF 0 x 101 0 HF HX rfl)
       ·exact no (by rw [e0,hm]) (pow_E1_n _ _ w hz HD h0 h16 hk hp _ hT0 _ hh0 (by rw [hz0];exact ht0) hh hT (dg t) (by rw [hz1];omega) (by rw [hz1];omega) hDT (by rw [hz1];exact hd) _ hF 0 0 101 101 HF HX rfl)
     ·exact no (by rw [e0,if_pos (.inr (.inr hd))]) (pow_Td_n _ _ w hz HD h0 h16 hk hp _ hT0 _ hh0 (by rw [hz0];exact ht0) hh hT (dg t) (by rw [hz1];omega) (by rw [hz1];omega) hDT (by rw [hz1];omega))
def rlongP (l:List UInt8):Nat × Bool:=(fl (ofDecX l),(ofDecV l).isSome && (decide (l.length = 16) && decide (ofDecX l ≤ 9007199254740992)))
theorem long_all (l:List UInt8) (w:World) (hs:l.length ≤ 1000000000000000000) :
  Calls Tryz.prog 181 #[.string ⟨l.toArray⟩] w fun e w'=>e = .returned (.tuple #[fv (rlongP l).1,.bool (rlongP l).2]) ∧ w = w':=by
 unfold rlongP
 have hS:(⟨l.toArray⟩:ByteArray).size = l.length:=str_size l
 rcases ofDec_both l (by omega) with ⟨m,hm,HF⟩ | ⟨hm,HF⟩
 ·rw [(ofDec_yes hm).1,hm]
  have hcv:=fun W=>conv_uf m W
  have hz:(⟨l.toArray⟩:ByteArray).size ≤ 1000000000000000000:=by omega
  by_cases h16:l.length = 16
  ·have h1:(((⟨l.toArray⟩:ByteArray).size:Int) == 16) = true:=by rw [hS,h16];rfl
   by_cases hle:m ≤ 9007199254740992
   ·have h2:decide ((m:Int) ≤ 9007199254740992) = true:=decide_eq_true (by omega)
    have HE:Hid ((Option.isSome (some m) && (decide (l.length = 16) && decide (m ≤ 9007199254740992))) = true):=by unfold Hid;simp [h16,hle]
    clear hm hS h16 hle
    generalize (⟨l.toArray⟩:ByteArray) = S at *
    generalize fl m = y at *
    go_enter Tryz.func181,Tryz.ntmps181
    go_wp2_with (go_at_call 198;refine (HF.out _).mono ?_;rintro e w1 ⟨rfl,rfl⟩)
    go_ret2
    exact ⟨ret_pair rfl (by rw [HE.out];rfl),rfl⟩
   ·have h2:decide ((m:Int) ≤ 9007199254740992) = false:=decide_eq_false (by omega)
    have HE:Hid ((Option.isSome (some m) && (decide (l.length = 16) && decide (m ≤ 9007199254740992))) = false):=by unfold Hid;simp [h16,hle]
    clear hm hS h16 hle
    generalize (⟨l.toArray⟩:ByteArray) = S at *
    generalize fl m = y at *
    go_enter Tryz.func181,Tryz.ntmps181
    go_wp2_with (go_at_call 198;refine (HF.out _).mono ?_;rintro e w1 ⟨rfl,rfl⟩)
    go_ret2
    exact ⟨ret_pair rfl (by rw [HE.out];rfl),rfl⟩
  ·have h1:(((⟨l.toArray⟩:ByteArray).size:Int) == 16) = false:=by rw [hS];exact beq_eq_false_iff_ne.2 (by omega)
   have HE:Hid ((Option.isSome (some m) && (decide (l.length = 16) && decide (m ≤ 9007199254740992))) = false):=by unfold Hid;simp [h16]
   clear hm hS h16
   generalize (⟨l.toArray⟩:ByteArray) = S at *
   generalize fl m = y at *
   go_enter Tryz.func181,Tryz.ntmps181
   go_wp2_with (go_at_call 198;refine (HF.out _).mono ?_;rintro e w1 ⟨rfl,rfl⟩)
   go_ret2
   exact ⟨ret_pair rfl (by rw [HE.out];rfl),rfl⟩
 ·rw [(ofDec_no hm).1,hm]
  have hcv:=fun W=>conv_uf 0 W
  have hcv:∀ W,(convert 90 45 (.int .u64 0)).run Tryz.prog W = .ok (.float .f64 (fl 0)) W:=hcv
  have HF:Hid (∀ W,Calls Tryz.prog 198 #[.string ⟨l.toArray⟩] W fun e w'=>e = .returned (.tuple #[.int .u64 0,.int .i64 101]) ∧ W = w'):=HF
  clear hm hS
  generalize (⟨l.toArray⟩:ByteArray) = S at *
  generalize fl 0 = y at *
  go_enter Tryz.func181,Tryz.ntmps181
  go_wp2_with (go_at_call 198;refine (HF.out _).mono ?_;rintro e w1 ⟨rfl,rfl⟩)
  go_ret2
  exact ⟨rfl,rfl⟩
end Go.Proofs.YtmfpmandkhiknaaGreatDoor.flt
namespace Go.Proofs.YtmfpmandkhiknaaGreatDoor.flt
open Go.RowKit Ieee
open num (ofDecV ofDecX ofDecE rOfDec_any ofDec_no ofDec_yes ret_pair)
set_option maxRecDepth 100000
attribute [local go_sem] run_bits run_frombits in
theorem Inf_neg (w:World):Calls Tryz.prog 170 #[.int .i64 (-1)] w fun e w'=>e = .returned (fv 18442240474082181120) ∧ w = w':=by
 go_enter Tryz.func170,Tryz.ntmps170
 go_wp2_with fail
 go_ret
 exact ⟨rfl,rfl⟩
theorem rof_nan (S:ByteArray) (w:World) (hn:(S.toList == [110,97,110]) = true):Calls Tryz.prog 143 #[.string S] w fun e w'=>e = .returned (.tuple #[fv 9221120237041090561,.int .i64 0]) ∧ Below w.heap.size w w':=by
 go_enter Tryz.func143,Tryz.ntmps143
 go_wp2_with (go_at_call 44;refine (NaN_any _).mono ?_;rintro e w1 ⟨rfl,rfl⟩)
 go_ret2
 exact ⟨rfl,Below.refl _ _⟩
theorem rof_inf (S:ByteArray) (w:World) (hn:(S.toList == [110,97,110]) = false) (hi:(S.toList == [105,110,102]) = true):Calls Tryz.prog 143 #[.string S] w fun e w'=>e = .returned (.tuple #[fv 9218868437227405312,.int .i64 0]) ∧ Below w.heap.size w w':=by
 go_enter Tryz.func143,Tryz.ntmps143
 go_wp2_with (go_at_call 170;refine (Inf_pos _).mono ?_;rintro e w1 ⟨rfl,rfl⟩)
 go_ret2
 exact ⟨rfl,Below.refl _ _⟩
theorem rof_ninf (S:ByteArray) (w:World) (hn:(S.toList == [110,97,110]) = false) (hi:(S.toList == [105,110,102]) = false) (hj:(S.toList == [45,105,110,102]) = true):Calls Tryz.prog 143 #[.string S] w fun e w'=>e = .returned (.tuple #[fv 18442240474082181120,.int .i64 0]) ∧ Below w.heap.size w w':=by
 go_enter Tryz.func143,Tryz.ntmps143
 go_wp2_with (go_at_call 170;refine (Inf_neg _).mono ?_;rintro e w1 ⟨rfl,rfl⟩)
 go_ret2
 exact ⟨rfl,Below.refl _ _⟩
theorem rof_dec_n (S T:ByteArray) (a b c:Nat) (w:World) (hn:(S.toList == [110,97,110]) = false) (hi:(S.toList == [105,110,102]) = false) (hj:(S.toList == [45,105,110,102]) = false) (hz:S.size ≤ 1000000000000000000) (h0:0 < S.size) (hh:((S[0].toNat:Int) == 45) = true) (hT:S.extract 1 S.size = T) (hlt:T.size < S.size)
  (HC:Hid (∀ W,Calls Tryz.prog 179 #[.string T] W fun e w'=>e = .returned (.tuple #[fv a,.bool true]) ∧ W = w')) (h64:a < 18446744073709551616) :
  Calls Tryz.prog 143 #[.string S] w fun e w'=>e = .returned (.tuple #[fv (ng a),.int .i64 0]) ∧ Below w.heap.size w w':=by
 have HN:=Lib.hid (fun W=>rNeg_any a W h64)
 clear h64
 have hlt2:decide (T.size < S.size) = true:=decide_eq_true hlt
 go_enter Tryz.func143,Tryz.ntmps143
 go_wp2_with (first | (go_at_call 179;refine (HC.out _).mono ?_;rintro e w1 ⟨rfl,rfl⟩) | (go_at_call 47;refine (HN.out _).mono ?_;rintro e w4 ⟨rfl,rfl⟩))
 go_ret2
 exact ⟨rfl,Below.refl _ _⟩
theorem rof_pow_n (S T:ByteArray) (a b c:Nat) (w:World) (hn:(S.toList == [110,97,110]) = false) (hi:(S.toList == [105,110,102]) = false) (hj:(S.toList == [45,105,110,102]) = false) (hz:S.size ≤ 1000000000000000000) (h0:0 < S.size) (hh:((S[0].toNat:Int) == 45) = true) (hT:S.extract 1 S.size = T) (hlt:T.size < S.size)
  (HC:Hid (∀ W,Calls Tryz.prog 179 #[.string T] W fun e w'=>e = .returned (.tuple #[fv a,.bool false]) ∧ W = w'))
  (HW:Hid (∀ W,Calls Tryz.prog 180 #[.string T] W fun e w'=>e = .returned (.tuple #[fv b,.bool true]) ∧ Below W.heap.size W w')) (h64:b < 18446744073709551616) :
  Calls Tryz.prog 143 #[.string S] w fun e w'=>e = .returned (.tuple #[fv (ng b),.int .i64 0]) ∧ Below w.heap.size w w':=by
 have HN:=Lib.hid (fun W=>rNeg_any b W h64)
 clear h64
 have hlt2:decide (T.size < S.size) = true:=decide_eq_true hlt
 go_enter Tryz.func143,Tryz.ntmps143
 go_wp2_with (first | (go_at_call 179;refine (HC.out _).mono ?_;rintro e w1 ⟨rfl,rfl⟩) | (go_at_call 180;refine (HW.out _).mono ?_;rintro e w2 ⟨rfl,hb2⟩) | (go_at_call 47;refine (HN.out _).mono ?_;rintro e w4 ⟨rfl,rfl⟩))
 go_ret2
 exact ⟨rfl,hb2⟩
theorem rof_long_n (S T:ByteArray) (a b c:Nat) (w:World) (hn:(S.toList == [110,97,110]) = false) (hi:(S.toList == [105,110,102]) = false) (hj:(S.toList == [45,105,110,102]) = false) (hz:S.size ≤ 1000000000000000000) (h0:0 < S.size) (hh:((S[0].toNat:Int) == 45) = true) (hT:S.extract 1 S.size = T) (hlt:T.size < S.size)
  (HC:Hid (∀ W,Calls Tryz.prog 179 #[.string T] W fun e w'=>e = .returned (.tuple #[fv a,.bool false]) ∧ W = w'))
  (HW:Hid (∀ W,Calls Tryz.prog 180 #[.string T] W fun e w'=>e = .returned (.tuple #[fv b,.bool false]) ∧ Below W.heap.size W w'))
  (HG:Hid (∀ W,Calls Tryz.prog 181 #[.string T] W fun e w'=>e = .returned (.tuple #[fv c,.bool true]) ∧ W = w')) (h64:c < 18446744073709551616) :
  Calls Tryz.prog 143 #[.string S] w fun e w'=>e = .returned (.tuple #[fv (ng c),.int .i64 0]) ∧ Below w.heap.size w w':=by
 have HN:=Lib.hid (fun W=>rNeg_any c W h64)
 clear h64
 have hlt2:decide (T.size < S.size) = true:=decide_eq_true hlt
 go_enter Tryz.func143,Tryz.ntmps143
 go_wp2_with (first | (go_at_call 179;refine (HC.out _).mono ?_;rintro e w1 ⟨rfl,rfl⟩) | (go_at_call 180;refine (HW.out _).mono ?_;rintro e w2 ⟨rfl,hb2⟩) | (go_at_call 181;refine (HG.out _).mono ?_;rintro e w3 ⟨rfl,rfl⟩) | (go_at_call 47;refine (HN.out _).mono ?_;rintro e w4 ⟨rfl,rfl⟩))
 go_ret2
 exact ⟨rfl,hb2⟩
theorem rof_fail_n (S T:ByteArray) (a b c:Nat) (w:World) (hn:(S.toList == [110,97,110]) = false) (hi:(S.toList == [105,110,102]) = false) (hj:(S.toList == [45,105,110,102]) = false) (hz:S.size ≤ 1000000000000000000) (h0:0 < S.size) (hh:((S[0].toNat:Int) == 45) = true) (hT:S.extract 1 S.size = T) (hlt:T.size < S.size)
  (HC:Hid (∀ W,Calls Tryz.prog 179 #[.string T] W fun e w'=>e = .returned (.tuple #[fv a,.bool false]) ∧ W = w'))
  (HW:Hid (∀ W,Calls Tryz.prog 180 #[.string T] W fun e w'=>e = .returned (.tuple #[fv b,.bool false]) ∧ Below W.heap.size W w'))
  (HG:Hid (∀ W,Calls Tryz.prog 181 #[.string T] W fun e w'=>e = .returned (.tuple #[fv c,.bool false]) ∧ W = w')) :
  Calls Tryz.prog 143 #[.string S] w fun e w'=>e = .returned (.tuple #[fv 0,.int .i64 200]) ∧ Below w.heap.size w w':=by
 have hlt2:decide (T.size < S.size) = true:=decide_eq_true hlt
 go_enter Tryz.func143,Tryz.ntmps143
 go_wp2_with (first | (go_at_call 179;refine (HC.out _).mono ?_;rintro e w1 ⟨rfl,rfl⟩) | (go_at_call 180;refine (HW.out _).mono ?_;rintro e w2 ⟨rfl,hb2⟩) | (go_at_call 181;refine (HG.out _).mono ?_;rintro e w3 ⟨rfl,rfl⟩))
 go_ret2
 exact ⟨rfl,hb2⟩
theorem rof_dec_p (S T:ByteArray) (a b c:Nat) (w:World) (hn:(S.toList == [110,97,110]) = false) (hi:(S.toList == [105,110,102]) = false) (hj:(S.toList == [45,105,110,102]) = false) (hz:S.size ≤ 1000000000000000000) (h0:0 < S.size) (hh:((S[0].toNat:Int) == 45) = false) (hT:S = T)
  (HC:Hid (∀ W,Calls Tryz.prog 179 #[.string T] W fun e w'=>e = .returned (.tuple #[fv a,.bool true]) ∧ W = w')) :
  Calls Tryz.prog 143 #[.string S] w fun e w'=>e = .returned (.tuple #[fv a,.int .i64 0]) ∧ Below w.heap.size w w':=by
 subst hT
 go_enter Tryz.func143,Tryz.ntmps143
 go_wp2_with (first | (go_at_call 179;refine (HC.out _).mono ?_;rintro e w1 ⟨rfl,rfl⟩))
 go_ret2
 exact ⟨rfl,Below.refl _ _⟩
theorem rof_pow_p (S T:ByteArray) (a b c:Nat) (w:World) (hn:(S.toList == [110,97,110]) = false) (hi:(S.toList == [105,110,102]) = false) (hj:(S.toList == [45,105,110,102]) = false) (hz:S.size ≤ 1000000000000000000) (h0:0 < S.size) (hh:((S[0].toNat:Int) == 45) = false) (hT:S = T)
  (HC:Hid (∀ W,Calls Tryz.prog 179 #[.string T] W fun e w'=>e = .returned (.tuple #[fv a,.bool false]) ∧ W = w'))
  (HW:Hid (∀ W,Calls Tryz.prog 180 #[.string T] W fun e w'=>e = .returned (.tuple #[fv b,.bool true]) ∧ Below W.heap.size W w')) :
  Calls Tryz.prog 143 #[.string S] w fun e w'=>e = .returned (.tuple #[fv b,.int .i64 0]) ∧ Below w.heap.size w w':=by
 subst hT
 go_enter Tryz.func143,Tryz.ntmps143
 go_wp2_with (first | (go_at_call 179;refine (HC.out _).mono ?_;rintro e w1 ⟨rfl,rfl⟩) | (go_at_call 180;refine (HW.out _).mono ?_;rintro e w2 ⟨rfl,hb2⟩))
 go_ret2
 exact ⟨rfl,hb2⟩
theorem rof_long_p (S T:ByteArray) (a b c:Nat) (w:World) (hn:(S.toList == [110,97,110]) = false) (hi:(S.toList == [105,110,102]) = false) (hj:(S.toList == [45,105,110,102]) = false) (hz:S.size ≤ 1000000000000000000) (h0:0 < S.size) (hh:((S[0].toNat:Int) == 45) = false) (hT:S = T)
  (HC:Hid (∀ W,Calls Tryz.prog 179 #[.string T] W fun e w'=>e = .returned (.tuple #[fv a,.bool false]) ∧ W = w'))
  (HW:Hid (∀ W,Calls Tryz.prog 180 #[.string T] W fun e w'=>e = .returned (.tuple #[fv b,.bool false]) ∧ Below W.heap.size W w'))
  (HG:Hid (∀ W,Calls Tryz.prog 181 #[.string T] W fun e w'=>e = .returned (.tuple #[fv c,.bool true]) ∧ W = w')) :
  Calls Tryz.prog 143 #[.string S] w fun e w'=>e = .returned (.tuple #[fv c,.int .i64 0]) ∧ Below w.heap.size w w':=by
 subst hT
 go_enter Tryz.func143,Tryz.ntmps143
 go_wp2_with (first | (go_at_call 179;refine (HC.out _).mono ?_;rintro e w1 ⟨rfl,rfl⟩) | (go_at_call 180;refine (HW.out _).mono ?_;rintro e w2 ⟨rfl,hb2⟩) | (go_at_call 181;refine (HG.out _).mono ?_;rintro e w3 ⟨rfl,rfl⟩))
 go_ret2
 exact ⟨rfl,hb2⟩
theorem rof_fail_p (S T:ByteArray) (a b c:Nat) (w:World) (hn:(S.toList == [110,97,110]) = false) (hi:(S.toList == [105,110,102]) = false) (hj:(S.toList == [45,105,110,102]) = false) (hz:S.size ≤ 1000000000000000000) (h0:0 < S.size) (hh:((S[0].toNat:Int) == 45) = false) (hT:S = T)
  (HC:Hid (∀ W,Calls Tryz.prog 179 #[.string T] W fun e w'=>e = .returned (.tuple #[fv a,.bool false]) ∧ W = w'))
  (HW:Hid (∀ W,Calls Tryz.prog 180 #[.string T] W fun e w'=>e = .returned (.tuple #[fv b,.bool false]) ∧ Below W.heap.size W w'))
  (HG:Hid (∀ W,Calls Tryz.prog 181 #[.string T] W fun e w'=>e = .returned (.tuple #[fv c,.bool false]) ∧ W = w')) :
  Calls Tryz.prog 143 #[.string S] w fun e w'=>e = .returned (.tuple #[fv 0,.int .i64 200]) ∧ Below w.heap.size w w':=by
 subst hT
 go_enter Tryz.func143,Tryz.ntmps143
 go_wp2_with (first | (go_at_call 179;refine (HC.out _).mono ?_;rintro e w1 ⟨rfl,rfl⟩) | (go_at_call 180;refine (HW.out _).mono ?_;rintro e w2 ⟨rfl,hb2⟩) | (go_at_call 181;refine (HG.out _).mono ?_;rintro e w3 ⟨rfl,rfl⟩))
 go_ret2
 exact ⟨rfl,hb2⟩
theorem rof_fail_e (S T:ByteArray) (a b c:Nat) (w:World) (hn:(S.toList == [110,97,110]) = false) (hi:(S.toList == [105,110,102]) = false) (hj:(S.toList == [45,105,110,102]) = false) (hz:S.size ≤ 1000000000000000000) (h0:¬ 0 < S.size) (hT:S = T)
  (HC:Hid (∀ W,Calls Tryz.prog 179 #[.string T] W fun e w'=>e = .returned (.tuple #[fv a,.bool false]) ∧ W = w'))
  (HW:Hid (∀ W,Calls Tryz.prog 180 #[.string T] W fun e w'=>e = .returned (.tuple #[fv b,.bool false]) ∧ Below W.heap.size W w'))
  (HG:Hid (∀ W,Calls Tryz.prog 181 #[.string T] W fun e w'=>e = .returned (.tuple #[fv c,.bool false]) ∧ W = w')) :
  Calls Tryz.prog 143 #[.string S] w fun e w'=>e = .returned (.tuple #[fv 0,.int .i64 200]) ∧ Below w.heap.size w w':=by
 subst hT
 go_enter Tryz.func143,Tryz.ntmps143
 go_wp2_with (first | (go_at_call 179;refine (HC.out _).mono ?_;rintro e w1 ⟨rfl,rfl⟩) | (go_at_call 180;refine (HW.out _).mono ?_;rintro e w2 ⟨rfl,hb2⟩) | (go_at_call 181;refine (HG.out _).mono ?_;rintro e w3 ⟨rfl,rfl⟩))
 go_ret2
 exact ⟨rfl,hb2⟩
def rofT (l:List UInt8):Option Nat:=if l = nanL then some NANB else if l = infL then some 9218868437227405312 else if l = 45 :: infL then some 18442240474082181120 else
 if decOkL (bodyL l) then some (signV l (decVL (bodyL l))) else if (rpowP (bodyL l)).2 then some (signV l (rpowP (bodyL l)).1) else if (rlongP (bodyL l)).2 then some (signV l (rlongP (bodyL l)).1) else none
def rofE (l:List UInt8):Value:=match rofT l with
 | some a=>.tuple #[fv a,.int .i64 0]
 | none=>.tuple #[fv 0,.int .i64 200]
theorem rpowP_le (l:List UInt8):(rpowP l).1 ≤ INF:=by
 unfold rpowP
 split
 ·exact Nat.zero_le _
 ·split
  ·exact Nat.zero_le _
  ·split
   ·exact itr_le _ _ _ (fl_inf _)
   ·exact Nat.zero_le _
theorem rlongP_le (l:List UInt8):(rlongP l).1 ≤ INF:=fl_inf _
theorem rOfText_any (l:List UInt8) (w:World) (hs:l.length ≤ 1000000000000000000) :
  Calls Tryz.prog 143 #[.string ⟨l.toArray⟩] w fun e w'=>e = .returned (rofE l) ∧ Below w.heap.size w w':=by
 have hS:(⟨l.toArray⟩:ByteArray).size = l.length:=str_size l
 have hT:∀ k:List UInt8,((⟨l.toArray⟩:ByteArray).toList == k) = decide (l = k):=fun k=>by rw [Lib.toList_data];rw [Bool.eq_iff_iff,beq_iff_eq,decide_eq_true_iff]
 have go:∀ v,rofE l = v → Calls Tryz.prog 143 #[.string ⟨l.toArray⟩] w (fun e w'=>e = .returned v ∧ Below w.heap.size w w') → Calls Tryz.prog 143 #[.string ⟨l.toArray⟩] w fun e w'=>e = .returned (rofE l) ∧ Below w.heap.size w w':=fun v h1 h2=>by rw [h1];exact h2
 by_cases h1:l = nanL
 ·exact go _ (by unfold rofE rofT;rw [if_pos h1];rfl) (rof_nan _ w (by rw [hT];exact decide_eq_true h1))
 have q1:((⟨l.toArray⟩:ByteArray).toList == [110,97,110]) = false:=by rw [hT];exact decide_eq_false h1
 by_cases h2:l = infL
 ·exact go _ (by unfold rofE rofT;rw [if_neg h1,if_pos h2]) (rof_inf _ w q1 (by rw [hT];exact decide_eq_true h2))
 have q2:((⟨l.toArray⟩:ByteArray).toList == [105,110,102]) = false:=by rw [hT];exact decide_eq_false h2
 by_cases h3:l = 45 :: infL
 ·exact go _ (by unfold rofE rofT;rw [if_neg h1,if_neg h2,if_pos h3]) (rof_ninf _ w q1 q2 (by rw [hT];exact decide_eq_true h3))
 have q3:((⟨l.toArray⟩:ByteArray).toList == [45,105,110,102]) = false:=by rw [hT];exact decide_eq_false h3
 have e0:rofT l = (if decOkL (bodyL l) then some (signV l (decVL (bodyL l))) else if (rpowP (bodyL l)).2 then some (signV l (rpowP (bodyL l)).1) else if (rlongP (bodyL l)).2 then some (signV l (rlongP (bodyL l)).1) else none):=by
  unfold rofT;rw [if_neg h1,if_neg h2,if_neg h3]
 have hbl:(bodyL l).length ≤ l.length:=trim_len l [45]
 have HC:Hid (∀ W,Calls Tryz.prog 179 #[.string ⟨(bodyL l).toArray⟩] W fun e w'=>e = .returned (.tuple #[fv (decVL (bodyL l)),.bool (decOkL (bodyL l))]) ∧ W = w'):=fun W=>rdecimal_all (bodyL l) W (Nat.le_trans hbl hs)
 have HW:Hid (∀ W,Calls Tryz.prog 180 #[.string ⟨(bodyL l).toArray⟩] W fun e w'=>e = .returned (.tuple #[fv (rpowP (bodyL l)).1,.bool (rpowP (bodyL l)).2]) ∧ Below W.heap.size W w'):=fun W=>powers_all (bodyL l) W (Nat.le_trans hbl hs)
 have HG:Hid (∀ W,Calls Tryz.prog 181 #[.string ⟨(bodyL l).toArray⟩] W fun e w'=>e = .returned (.tuple #[fv (rlongP (bodyL l)).1,.bool (rlongP (bodyL l)).2]) ∧ W = w'):=fun W=>long_all (bodyL l) W (Nat.le_trans hbl hs)
 have hz:(⟨l.toArray⟩:ByteArray).size ≤ 1000000000000000000:=by rw [hS];exact hs
 have i64:INF < 18446744073709551616:=by decide
 have l1:=decVL_lt (bodyL l)
 have l2:=Nat.lt_of_le_of_lt (rpowP_le (bodyL l)) i64
 have l3:=Nat.lt_of_le_of_lt (rlongP_le (bodyL l)) i64
 cases hneg:Lib.hasPrefix l [45]
 ·have hb:bodyL l = l:=by unfold bodyL Lib.trimPrefix;rw [hneg];rfl
  have hsg:∀ a,signV l a = a:=fun a=>by unfold signV;rw [hb,if_neg (by omega)]
  rw [hb] at HC HW HG e0 l1 l2 l3
  simp only [hsg] at e0
  by_cases hl0:l.length = 0
  ·have hnil:l = []:=List.eq_nil_of_length_eq_zero hl0
   refine go _ ?_ (rof_fail_e _ _ _ _ _ w q1 q2 q3 hz (by rw [hS];omega) rfl (by rw [hnil] at HC ⊢;exact HC) (by rw [hnil] at HW ⊢;exact HW) (by rw [hnil] at HG ⊢;exact HG))
   unfold rofE;rw [e0,hnil];rfl
  ·have hh0:0 < (⟨l.toArray⟩:ByteArray).size:=by rw [hS];omega
   have hh:(((⟨l.toArray⟩:ByteArray)[0].toNat:Int) == 45) = false:=by
    rw [← get_list (SS:=⟨l.toArray⟩) (L:=l) rfl 0 hh0]
    refine beq_eq_false_iff_ne.2 fun e => ?_
    have:Lib.hasPrefix l [45] = true:=by
     rw [pre_head]
     cases l with
     | nil=>simp at hl0
     | cons c r =>
      refine ⟨r,?_⟩
      have:c = 45:=by
       apply UInt8.toNat_inj.1
       have e45:(45:UInt8).toNat = 45:=rfl
       have e2:((c.toNat:Nat):Int) = 45:=e
       omega
      rw [this]
    rw [hneg] at this;cases this
   cases hd:decOkL l
   ·rw [hd] at HC
    rw [hd,if_neg Bool.false_ne_true] at e0
    cases hp:(rpowP l).2
    ·rw [hp] at HW
     rw [hp,if_neg Bool.false_ne_true] at e0
     cases hg:(rlongP l).2
     ·rw [hg] at HG
      rw [hg,if_neg Bool.false_ne_true] at e0
      exact go _ (by unfold rofE;rw [e0]) (rof_fail_p _ _ _ _ _ w q1 q2 q3 hz hh0 hh rfl HC HW HG)
     ·rw [hg] at HG
      rw [hg,if_pos rfl] at e0
      exact go _ (by unfold rofE;rw [e0]) (rof_long_p _ _ _ _ _ w q1 q2 q3 hz hh0 hh rfl HC HW HG)
    ·rw [hp] at HW
     rw [hp,if_pos rfl] at e0
     exact go _ (by unfold rofE;rw [e0]) (rof_pow_p _ _ _ _ 0 w q1 q2 q3 hz hh0 hh rfl HC HW)
   ·rw [hd] at HC
    rw [hd,if_pos rfl] at e0
    exact go _ (by unfold rofE;rw [e0]) (rof_dec_p _ _ _ 0 0 w q1 q2 q3 hz hh0 hh rfl HC)
 ·obtain ⟨t,rfl⟩:=(pre_head l).1 hneg
  have hb:bodyL (45 :: t) = t:=by unfold bodyL Lib.trimPrefix;rw [hneg];rfl
  have hsg:∀ a,signV (45 :: t) a = ng a:=fun a=>by unfold signV;rw [hb,if_pos (by simp)]
  rw [hb] at HC HW HG e0 l1 l2 l3
  simp only [hsg] at e0
  have hh0:0 < (⟨(45 :: t).toArray⟩:ByteArray).size:=by rw [hS];simp
  have hh:(((⟨(45 :: t).toArray⟩:ByteArray)[0].toNat:Int) == 45) = true:=rfl
  have hTT:(⟨(45 :: t).toArray⟩:ByteArray).extract 1 (⟨(45 :: t).toArray⟩:ByteArray).size = ⟨t.toArray⟩:=ext_drop (45 :: t) 1 _ hS
  have hlt:(⟨t.toArray⟩:ByteArray).size < (⟨(45 :: t).toArray⟩:ByteArray).size:=by rw [hS,str_size];simp
  cases hd:decOkL t
  ·rw [hd] at HC
   rw [hd,if_neg Bool.false_ne_true] at e0
   cases hp:(rpowP t).2
   ·rw [hp] at HW
    rw [hp,if_neg Bool.false_ne_true] at e0
    cases hg:(rlongP t).2
    ·rw [hg] at HG
     rw [hg,if_neg Bool.false_ne_true] at e0
     exact go _ (by unfold rofE;rw [e0]) (rof_fail_n _ _ _ _ _ w q1 q2 q3 hz hh0 hh hTT hlt HC HW HG)
    ·rw [hg] at HG
     rw [hg,if_pos rfl] at e0
     exact go _ (by unfold rofE;rw [e0]) (rof_long_n _ _ _ _ _ w q1 q2 q3 hz hh0 hh hTT hlt HC HW HG l3)
   ·rw [hp] at HW
    rw [hp,if_pos rfl] at e0
    exact go _ (by unfold rofE;rw [e0]) (rof_pow_n _ _ _ _ 0 w q1 q2 q3 hz hh0 hh hTT hlt HC HW l2)
  ·rw [hd] at HC
   rw [hd,if_pos rfl] at e0
   exact go _ (by unfold rofE;rw [e0]) (rof_dec_n _ _ _ 0 0 w q1 q2 q3 hz hh0 hh hTT hlt HC l1)
end Go.Proofs.YtmfpmandkhiknaaGreatDoor.flt
