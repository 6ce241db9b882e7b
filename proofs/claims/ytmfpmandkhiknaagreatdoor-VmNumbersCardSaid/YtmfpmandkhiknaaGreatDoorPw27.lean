/-
  Proved: what the document's own powers returns, way by way (written by wip/bin/rpow.py). Conditions: as each theorem says.
  Proved: plain laws of decimal fractions of few digits. Conditions: as each theorem says. No program is in sight.
  Proved: what the document's own decimal returns. Conditions: as each theorem says.
-/
import Derived.Test.YtmfpmandkhiknaaGreatDoorPw26
set_option linter.unusedVariables false
set_option linter.unusedSimpArgs false
namespace Go.Proofs.YtmfpmandkhiknaaGreatDoor.flt
open Go.RowKit Ieee
set_option maxRecDepth 100000
def stp (neg:Bool) (a:Nat):Nat:=(if neg then fop .quo a two else fop .mul a two).getD 0
def itr (neg:Bool):Nat → Nat → Nat
 | 0,a=>a
 | n + 1,a=>stp neg (itr neg n a)
theorem stp_ok (neg:Bool) (a:Nat) (h:a ≤ INF):(if neg then fop .quo a two else fop .mul a two) = some (stp neg a) ∧ stp neg a ≤ INF:=by
 rcases Nat.lt_or_eq_of_le h with h | rfl
 ·cases neg
  ·obtain ⟨r,h1,h2⟩:=mul_some a two h two_ok.1
   simp only [stp,Bool.false_eq_true,if_false,h1,Option.getD_some]
   exact ⟨trivial,h2⟩
  ·obtain ⟨q,h1,h2,_⟩:=half a h
   simp only [stp,if_true,h2,Option.getD_some]
   exact ⟨trivial,Nat.le_of_lt h1⟩
 ·cases neg
  ·exact ⟨by decide +kernel,by decide +kernel⟩
  ·exact ⟨by decide +kernel,by decide +kernel⟩
theorem itr_le (neg:Bool) (n a:Nat) (h:a ≤ INF):itr neg n a ≤ INF:=by
 induction n with
 | zero=>exact h
 | succ n ih=>exact (stp_ok neg _ ih).2
theorem fl_inf (n:Nat):fl n ≤ INF:=near_le n 0
theorem conv_uf (n:Nat) (w:World):(convert 90 45 (.int .u64 n)).run Tryz.prog w = .ok (.float .f64 (fl n)) w:=by
 have:=run_convert_int_float w 90 45 .u64 .f64 (n:Int) (P:=Tryz.prog) (by kernel_rfl) (by kernel_rfl)
 rw [floatOfInt_nat] at this
 exact this
set_option maxHeartbeats 1000000 in
theorem pow_k0 (S:ByteArray) (k:Nat) (w:World) (hz:S.size ≤ 1000000000000000001)
  (HD:Hid (∀ W,Calls Tryz.prog 197 #[.string S,.int .i64 0] W fun e w'=>e = .returned (.int .i64 (k:Nat)) ∧ W = w'))
  (h:k = 0) :
  Calls Tryz.prog 180 #[.string S] w fun e w'=>e = .returned (.tuple #[fv 0,.bool false]) ∧ w = w':=by
 subst h
 go_enter Tryz.func180,Tryz.ntmps180
 go_wp2_with (go_at_call 197;refine (HD.out _).mono ?_;rintro e w1 ⟨rfl,rfl⟩)
 go_ret2
 exact ⟨rfl,rfl⟩
set_option maxHeartbeats 1000000 in
theorem pow_k16 (S:ByteArray) (k:Nat) (w:World) (hz:S.size ≤ 1000000000000000001)
  (HD:Hid (∀ W,Calls Tryz.prog 197 #[.string S,.int .i64 0] W fun e w'=>e = .returned (.int .i64 (k:Nat)) ∧ W = w'))
  (h0:0 < k) (h:16 < k) (hb:k ≤ S.size) :
  Calls Tryz.prog 180 #[.string S] w fun e w'=>e = .returned (.tuple #[fv 0,.bool false]) ∧ w = w':=by
 have hk0:((k:Int) == 0) = false:=beq_eq_false_iff_ne.2 (by omega)
 go_enter Tryz.func180,Tryz.ntmps180
 go_wp2_with (go_at_call 197;refine (HD.out _).mono ?_;rintro e w1 ⟨rfl,rfl⟩)
 go_ret2
 exact ⟨rfl,rfl⟩
set_option maxHeartbeats 1000000 in
theorem pow_end (S:ByteArray) (k:Nat) (w:World) (hz:S.size ≤ 1000000000000000001)
  (HD:Hid (∀ W,Calls Tryz.prog 197 #[.string S,.int .i64 0] W fun e w'=>e = .returned (.int .i64 (k:Nat)) ∧ W = w'))
  (h0:0 < k) (h:k ≤ 16) (hb:k = S.size) :
  Calls Tryz.prog 180 #[.string S] w fun e w'=>e = .returned (.tuple #[fv 0,.bool false]) ∧ w = w':=by
 subst hb
 have hk0:((S.size:Int) == 0) = false:=beq_eq_false_iff_ne.2 (by omega)
 go_enter Tryz.func180,Tryz.ntmps180
 go_wp2_with (go_at_call 197;refine (HD.out _).mono ?_;rintro e w1 ⟨rfl,rfl⟩)
 go_ret2
 exact ⟨rfl,rfl⟩
set_option maxHeartbeats 1000000 in
theorem pow_p (S:ByteArray) (k:Nat) (w:World) (hz:S.size ≤ 1000000000000000001)
  (HD:Hid (∀ W,Calls Tryz.prog 197 #[.string S,.int .i64 0] W fun e w'=>e = .returned (.int .i64 (k:Nat)) ∧ W = w'))
  (h0:0 < k) (h:k ≤ 16) (hk:k < S.size) (hne:((S[k].toNat:Int) != 112) = true) :
  Calls Tryz.prog 180 #[.string S] w fun e w'=>e = .returned (.tuple #[fv 0,.bool false]) ∧ w = w':=by
 have hk0:((k:Int) == 0) = false:=beq_eq_false_iff_ne.2 (by omega)
 go_enter Tryz.func180,Tryz.ntmps180
 go_wp2_with (go_at_call 197;refine (HD.out _).mono ?_;rintro e w1 ⟨rfl,rfl⟩)
 go_ret2
 exact ⟨rfl,rfl⟩
set_option maxHeartbeats 1000000 in
theorem pow_T0 (S:ByteArray) (k:Nat) (w:World) (hz:S.size ≤ 1000000000000000001)
  (HD:Hid (∀ W,Calls Tryz.prog 197 #[.string S,.int .i64 0] W fun e w'=>e = .returned (.int .i64 (k:Nat)) ∧ W = w'))
  (h0:0 < k) (h:k ≤ 16) (hk:k < S.size) (hp:((S[k].toNat:Int) != 112) = false) (T0:ByteArray) (hT0:S.extract (k + 1) S.size = T0) (hs:T0.size = 0) :
  Calls Tryz.prog 180 #[.string S] w fun e w'=>e = .returned (.tuple #[fv 0,.bool false]) ∧ w = w':=by
 have hk0:((k:Int) == 0) = false:=beq_eq_false_iff_ne.2 (by omega)
 have hs1:¬ 0 < T0.size:=by omega
 have hs2:T0.size < 1:=by omega
 clear hs
 go_enter Tryz.func180,Tryz.ntmps180
 go_wp2_with (go_at_call 197;refine (HD.out _).mono ?_;rintro e w1 ⟨rfl,rfl⟩)
 go_ret2
 exact ⟨rfl,rfl⟩
set_option maxHeartbeats 1000000 in
theorem pow_T1_n (S:ByteArray) (k:Nat) (w:World) (hz:S.size ≤ 1000000000000000001)
  (HD:Hid (∀ W,Calls Tryz.prog 197 #[.string S,.int .i64 0] W fun e w'=>e = .returned (.int .i64 (k:Nat)) ∧ W = w'))
  (h0:0 < k) (h:k ≤ 16) (hk:k < S.size) (hp:((S[k].toNat:Int) != 112) = false) (T0:ByteArray) (hT0:S.extract (k + 1) S.size = T0) (T:ByteArray) (hl0:0 < T0.size) (hl1:T0.size ≤ 1000000000000000001) (hh:((T0[0].toNat:Int) == 45) = true) (hT:T0.extract 1 T0.size = T) (hs:T.size = 0) :
  Calls Tryz.prog 180 #[.string S] w fun e w'=>e = .returned (.tuple #[fv 0,.bool false]) ∧ w = w':=by
 have hk0:((k:Int) == 0) = false:=beq_eq_false_iff_ne.2 (by omega)
 have hs2:T.size < 1:=by omega
 clear hs
 go_enter Tryz.func180,Tryz.ntmps180
 go_wp2_with (go_at_call 197;refine (HD.out _).mono ?_;rintro e w1 ⟨rfl,rfl⟩)
 go_ret2
 exact ⟨rfl,rfl⟩
set_option maxHeartbeats 1000000 in
theorem pow_T4_n (S:ByteArray) (k:Nat) (w:World) (hz:S.size ≤ 1000000000000000001)
  (HD:Hid (∀ W,Calls Tryz.prog 197 #[.string S,.int .i64 0] W fun e w'=>e = .returned (.int .i64 (k:Nat)) ∧ W = w'))
  (h0:0 < k) (h:k ≤ 16) (hk:k < S.size) (hp:((S[k].toNat:Int) != 112) = false) (T0:ByteArray) (hT0:S.extract (k + 1) S.size = T0) (T:ByteArray) (hl0:0 < T0.size) (hl1:T0.size ≤ 1000000000000000001) (hh:((T0[0].toNat:Int) == 45) = true) (hT:T0.extract 1 T0.size = T) (hs:4 < T.size) :
  Calls Tryz.prog 180 #[.string S] w fun e w'=>e = .returned (.tuple #[fv 0,.bool false]) ∧ w = w':=by
 have hk0:((k:Int) == 0) = false:=beq_eq_false_iff_ne.2 (by omega)
 have hs2:¬ T.size < 1:=by omega
 go_enter Tryz.func180,Tryz.ntmps180
 go_wp2_with (go_at_call 197;refine (HD.out _).mono ?_;rintro e w1 ⟨rfl,rfl⟩)
 go_ret2
 exact ⟨rfl,rfl⟩
set_option maxHeartbeats 1000000 in
theorem pow_Td_n (S:ByteArray) (k:Nat) (w:World) (hz:S.size ≤ 1000000000000000001)
  (HD:Hid (∀ W,Calls Tryz.prog 197 #[.string S,.int .i64 0] W fun e w'=>e = .returned (.int .i64 (k:Nat)) ∧ W = w'))
  (h0:0 < k) (h:k ≤ 16) (hk:k < S.size) (hp:((S[k].toNat:Int) != 112) = false) (T0:ByteArray) (hT0:S.extract (k + 1) S.size = T0) (T:ByteArray) (hl0:0 < T0.size) (hl1:T0.size ≤ 1000000000000000001) (hh:((T0[0].toNat:Int) == 45) = true) (hT:T0.extract 1 T0.size = T) (d:Nat) (hs:1 ≤ T.size) (hs4:T.size ≤ 4) (HT:Hid (∀ W,Calls Tryz.prog 197 #[.string T,.int .i64 0] W fun e w'=>e = .returned (.int .i64 (d:Nat)) ∧ W = w')) (hd:d < T.size) :
  Calls Tryz.prog 180 #[.string S] w fun e w'=>e = .returned (.tuple #[fv 0,.bool false]) ∧ w = w':=by
 have hk0:((k:Int) == 0) = false:=beq_eq_false_iff_ne.2 (by omega)
 have hs2:¬ T.size < 1:=by omega
 have hd2:((d:Int) != (T.size:Int)) = true:=bne_iff_ne.2 (by omega)
 have hd3:¬ d = T.size:=by omega
 clear hd
 go_enter Tryz.func180,Tryz.ntmps180
 go_wp2_with (go_at_call 197;first | ((with_reducible refine (HD.out _).mono ?_);rintro e w1 ⟨rfl,rfl⟩) | ((with_reducible refine (HT.out _).mono ?_);rintro e w1 ⟨rfl,rfl⟩))
 go_ret2
 exact ⟨rfl,rfl⟩
set_option maxHeartbeats 1000000 in
theorem pow_E1_n (S:ByteArray) (k:Nat) (w:World) (hz:S.size ≤ 1000000000000000001)
  (HD:Hid (∀ W,Calls Tryz.prog 197 #[.string S,.int .i64 0] W fun e w'=>e = .returned (.int .i64 (k:Nat)) ∧ W = w'))
  (h0:0 < k) (h:k ≤ 16) (hk:k < S.size) (hp:((S[k].toNat:Int) != 112) = false) (T0:ByteArray) (hT0:S.extract (k + 1) S.size = T0) (T:ByteArray) (hl0:0 < T0.size) (hl1:T0.size ≤ 1000000000000000001) (hh:((T0[0].toNat:Int) == 45) = true) (hT:T0.extract 1 T0.size = T) (d:Nat) (hs:1 ≤ T.size) (hs4:T.size ≤ 4) (HT:Hid (∀ W,Calls Tryz.prog 197 #[.string T,.int .i64 0] W fun e w'=>e = .returned (.int .i64 (d:Nat)) ∧ W = w')) (hd:d = T.size) (FF:ByteArray) (hF:S.extract 0 k = FF) (m x:Nat) (e1 e2:Int) (HF:Hid (∀ W,Calls Tryz.prog 198 #[.string FF] W fun e w'=>e = .returned (.tuple #[.int .u64 m,.int .i64 e1]) ∧ W = w')) (HX:Hid (∀ W,Calls Tryz.prog 198 #[.string T] W fun e w'=>e = .returned (.tuple #[.int .u64 x,.int .i64 e2]) ∧ W = w')) (he:e1 = 101) :
  Calls Tryz.prog 180 #[.string S] w fun e w'=>e = .returned (.tuple #[fv 0,.bool false]) ∧ w = w':=by
 have hk0:((k:Int) == 0) = false:=beq_eq_false_iff_ne.2 (by omega)
 subst hd
 have hs2:¬ T.size < 1:=by omega
 subst he
 go_enter Tryz.func180,Tryz.ntmps180
 go_wp2_with (first | (go_at_call 197;first | ((with_reducible refine (HD.out _).mono ?_);rintro e w1 ⟨rfl,rfl⟩) | ((with_reducible refine (HT.out _).mono ?_);rintro e w1 ⟨rfl,rfl⟩)) | (go_at_call 198;first | ((with_reducible refine (HF.out _).mono ?_);rintro e w1 ⟨rfl,rfl⟩) | ((with_reducible refine (HX.out _).mono ?_);rintro e w1 ⟨rfl,rfl⟩)))
 go_ret2
 exact ⟨rfl,rfl⟩
set_option maxHeartbeats 1000000 in
theorem pow_E2_n (S:ByteArray) (k:Nat) (w:World) (hz:S.size ≤ 1000000000000000001)
  (HD:Hid (∀ W,Calls Tryz.prog 197 #[.string S,.int .i64 0] W fun e w'=>e = .returned (.int .i64 (k:Nat)) ∧ W = w'))
  (h0:0 < k) (h:k ≤ 16) (hk:k < S.size) (hp:((S[k].toNat:Int) != 112) = false) (T0:ByteArray) (hT0:S.extract (k + 1) S.size = T0) (T:ByteArray) (hl0:0 < T0.size) (hl1:T0.size ≤ 1000000000000000001) (hh:((T0[0].toNat:Int) == 45) = true) (hT:T0.extract 1 T0.size = T) (d:Nat) (hs:1 ≤ T.size) (hs4:T.size ≤ 4) (HT:Hid (∀ W,Calls Tryz.prog 197 #[.string T,.int .i64 0] W fun e w'=>e = .returned (.int .i64 (d:Nat)) ∧ W = w')) (hd:d = T.size) (FF:ByteArray) (hF:S.extract 0 k = FF) (m x:Nat) (e1 e2:Int) (HF:Hid (∀ W,Calls Tryz.prog 198 #[.string FF] W fun e w'=>e = .returned (.tuple #[.int .u64 m,.int .i64 e1]) ∧ W = w')) (HX:Hid (∀ W,Calls Tryz.prog 198 #[.string T] W fun e w'=>e = .returned (.tuple #[.int .u64 x,.int .i64 e2]) ∧ W = w')) (he:e1 = 0) (he2:e2 = 101) :
  Calls Tryz.prog 180 #[.string S] w fun e w'=>e = .returned (.tuple #[fv 0,.bool false]) ∧ w = w':=by
 have hk0:((k:Int) == 0) = false:=beq_eq_false_iff_ne.2 (by omega)
 subst hd
 have hs2:¬ T.size < 1:=by omega
 subst he
 subst he2
 go_enter Tryz.func180,Tryz.ntmps180
 go_wp2_with (first | (go_at_call 197;first | ((with_reducible refine (HD.out _).mono ?_);rintro e w1 ⟨rfl,rfl⟩) | ((with_reducible refine (HT.out _).mono ?_);rintro e w1 ⟨rfl,rfl⟩)) | (go_at_call 198;first | ((with_reducible refine (HF.out _).mono ?_);rintro e w1 ⟨rfl,rfl⟩) | ((with_reducible refine (HX.out _).mono ?_);rintro e w1 ⟨rfl,rfl⟩)))
 go_ret2
 exact ⟨rfl,rfl⟩
set_option maxHeartbeats 1000000 in
theorem pow_ok_n (S:ByteArray) (k:Nat) (w:World) (hz:S.size ≤ 1000000000000000001)
  (HD:Hid (∀ W,Calls Tryz.prog 197 #[.string S,.int .i64 0] W fun e w'=>e = .returned (.int .i64 (k:Nat)) ∧ W = w'))
  (h0:0 < k) (h:k ≤ 16) (hk:k < S.size) (hp:((S[k].toNat:Int) != 112) = false) (T0:ByteArray) (hT0:S.extract (k + 1) S.size = T0) (T:ByteArray) (hl0:0 < T0.size) (hl1:T0.size ≤ 1000000000000000001) (hh:((T0[0].toNat:Int) == 45) = true) (hT:T0.extract 1 T0.size = T) (d:Nat) (hs:1 ≤ T.size) (hs4:T.size ≤ 4) (HT:Hid (∀ W,Calls Tryz.prog 197 #[.string T,.int .i64 0] W fun e w'=>e = .returned (.int .i64 (d:Nat)) ∧ W = w')) (hd:d = T.size) (FF:ByteArray) (hF:S.extract 0 k = FF) (m x:Nat) (e1 e2:Int) (HF:Hid (∀ W,Calls Tryz.prog 198 #[.string FF] W fun e w'=>e = .returned (.tuple #[.int .u64 m,.int .i64 e1]) ∧ W = w')) (HX:Hid (∀ W,Calls Tryz.prog 198 #[.string T] W fun e w'=>e = .returned (.tuple #[.int .u64 x,.int .i64 e2]) ∧ W = w')) (he:e1 = 0) (he2:e2 = 0) (hx:x ≤ 9999) :
  Calls Tryz.prog 180 #[.string S] w fun e w'=>e = .returned (.tuple #[fv (itr true x (fl m)),.bool ((txt (itr true x (fl m))).toList == S.toList)]) ∧ Below w.heap.size w w':=by
 have hk0:((k:Int) == 0) = false:=beq_eq_false_iff_ne.2 (by omega)
 subst hd
 have hs2:¬ T.size < 1:=by omega
 subst he
 subst he2
 have hcv:=fun W=>conv_uf m W
 go_enter Tryz.func180,Tryz.ntmps180
 go_wp2_with (first | (go_at_call 197;first | ((with_reducible refine (HD.out _).mono ?_);rintro e w1 ⟨rfl,rfl⟩) | ((with_reducible refine (HT.out _).mono ?_);rintro e w1 ⟨rfl,rfl⟩)) | (go_at_call 198;first | ((with_reducible refine (HF.out _).mono ?_);rintro e w1 ⟨rfl,rfl⟩) | ((with_reducible refine (HX.out _).mono ?_);rintro e w1 ⟨rfl,rfl⟩)))
 go_loop [11,12] (fun v i=>∃ j:Nat,i = .int .u64 j ∧ j ≤ x ∧ v = fv (itr true j (fl m))) (fun _ i=>x - (intOf i).toNat)
 case atStart=>exact ⟨0,rfl,Nat.zero_le _,rfl⟩
 case round =>
  obtain ⟨j,rfl,hj,rfl⟩:=hrel
  by_cases hlt:j < x
  ·have hst:=(stp_ok true (itr true j (fl m)) (itr_le _ _ _ (fl_inf m))).1
   simp only [Bool.false_eq_true,if_false,if_true] at hst
   have hop:=fun W=>run_float_arith (P:=Tryz.prog) W .quo 45 .f64 (itr true j (fl m)) two (stp true (itr true j (fl m))) hst
   unfold two at hop
   have HN:Hid (stp true (itr true j (fl m)) = itr true (j + 1) (fl m)):=rfl
   clear hst
   generalize stp true (itr true j (fl m)) = y at *
   generalize itr true j (fl m) = z at *
   have hw:IntKind.u64.wrap ((j:Int) + 1) = ((j + 1:Nat):Int):=by rw [IntKind.wrap_u64];omega
   go_wp2_with fail
   go_round
   case rel=>exact ⟨j + 1,by go_num,by omega,by rw [HN.out]⟩
   case measure=>simp [intOf];omega
  ·obtain rfl:j = x:=by omega
   have HXT:=Lib.hid (fun W=>rText_any (itr true j (fl m)) W (Nat.lt_of_le_of_lt (itr_le _ _ _ (fl_inf m)) (by unfold INF;omega)))
   generalize hz1:itr true j (fl m) = z at *
   generalize hz2:txt z = Z at *
   have HZ1:=Lib.hid hz1
   have HZ2:=Lib.hid hz2
   clear hz1 hz2
   go_wp2_with fail
   (with_reducible refine (HXT.out _).mono ?_);rintro e w2 ⟨rfl,hb2⟩
   go_wp2_with fail
   go_ret2
   exact ⟨by rw [HZ1.out,HZ2.out];rfl,hb2⟩
set_option maxHeartbeats 1000000 in
theorem pow_T4_p (S:ByteArray) (k:Nat) (w:World) (hz:S.size ≤ 1000000000000000001)
  (HD:Hid (∀ W,Calls Tryz.prog 197 #[.string S,.int .i64 0] W fun e w'=>e = .returned (.int .i64 (k:Nat)) ∧ W = w'))
  (h0:0 < k) (h:k ≤ 16) (hk:k < S.size) (hp:((S[k].toNat:Int) != 112) = false) (T0:ByteArray) (hT0:S.extract (k + 1) S.size = T0) (T:ByteArray) (hl0:0 < T0.size) (hl1:T0.size ≤ 1000000000000000001) (hh:((T0[0].toNat:Int) == 45) = false) (hT:T0 = T) (hs:4 < T.size) :
  Calls Tryz.prog 180 #[.string S] w fun e w'=>e = .returned (.tuple #[fv 0,.bool false]) ∧ w = w':=by
 have hk0:((k:Int) == 0) = false:=beq_eq_false_iff_ne.2 (by omega)
 subst hT
 have hs2:¬ T0.size < 1:=by omega
 go_enter Tryz.func180,Tryz.ntmps180
 go_wp2_with (go_at_call 197;refine (HD.out _).mono ?_;rintro e w1 ⟨rfl,rfl⟩)
 go_ret2
 exact ⟨rfl,rfl⟩
set_option maxHeartbeats 1000000 in
theorem pow_Td_p (S:ByteArray) (k:Nat) (w:World) (hz:S.size ≤ 1000000000000000001)
  (HD:Hid (∀ W,Calls Tryz.prog 197 #[.string S,.int .i64 0] W fun e w'=>e = .returned (.int .i64 (k:Nat)) ∧ W = w'))
  (h0:0 < k) (h:k ≤ 16) (hk:k < S.size) (hp:((S[k].toNat:Int) != 112) = false) (T0:ByteArray) (hT0:S.extract (k + 1) S.size = T0) (T:ByteArray) (hl0:0 < T0.size) (hl1:T0.size ≤ 1000000000000000001) (hh:((T0[0].toNat:Int) == 45) = false) (hT:T0 = T) (d:Nat) (hs:1 ≤ T.size) (hs4:T.size ≤ 4) (HT:Hid (∀ W,Calls Tryz.prog 197 #[.string T,.int .i64 0] W fun e w'=>e = .returned (.int .i64 (d:Nat)) ∧ W = w')) (hd:d < T.size) :
  Calls Tryz.prog 180 #[.string S] w fun e w'=>e = .returned (.tuple #[fv 0,.bool false]) ∧ w = w':=by
 have hk0:((k:Int) == 0) = false:=beq_eq_false_iff_ne.2 (by omega)
 subst hT
 have hs2:¬ T0.size < 1:=by omega
 have hd2:((d:Int) != (T0.size:Int)) = true:=bne_iff_ne.2 (by omega)
 have hd3:¬ d = T0.size:=by omega
 clear hd
 go_enter Tryz.func180,Tryz.ntmps180
 go_wp2_with (go_at_call 197;first | ((with_reducible refine (HD.out _).mono ?_);rintro e w1 ⟨rfl,rfl⟩) | ((with_reducible refine (HT.out _).mono ?_);rintro e w1 ⟨rfl,rfl⟩))
 go_ret2
 exact ⟨rfl,rfl⟩
set_option maxHeartbeats 1000000 in
theorem pow_E1_p (S:ByteArray) (k:Nat) (w:World) (hz:S.size ≤ 1000000000000000001)
  (HD:Hid (∀ W,Calls Tryz.prog 197 #[.string S,.int .i64 0] W fun e w'=>e = .returned (.int .i64 (k:Nat)) ∧ W = w'))
  (h0:0 < k) (h:k ≤ 16) (hk:k < S.size) (hp:((S[k].toNat:Int) != 112) = false) (T0:ByteArray) (hT0:S.extract (k + 1) S.size = T0) (T:ByteArray) (hl0:0 < T0.size) (hl1:T0.size ≤ 1000000000000000001) (hh:((T0[0].toNat:Int) == 45) = false) (hT:T0 = T) (d:Nat) (hs:1 ≤ T.size) (hs4:T.size ≤ 4) (HT:Hid (∀ W,Calls Tryz.prog 197 #[.string T,.int .i64 0] W fun e w'=>e = .returned (.int .i64 (d:Nat)) ∧ W = w')) (hd:d = T.size) (FF:ByteArray) (hF:S.extract 0 k = FF) (m x:Nat) (e1 e2:Int) (HF:Hid (∀ W,Calls Tryz.prog 198 #[.string FF] W fun e w'=>e = .returned (.tuple #[.int .u64 m,.int .i64 e1]) ∧ W = w')) (HX:Hid (∀ W,Calls Tryz.prog 198 #[.string T] W fun e w'=>e = .returned (.tuple #[.int .u64 x,.int .i64 e2]) ∧ W = w')) (he:e1 = 101) :
  Calls Tryz.prog 180 #[.string S] w fun e w'=>e = .returned (.tuple #[fv 0,.bool false]) ∧ w = w':=by
 have hk0:((k:Int) == 0) = false:=beq_eq_false_iff_ne.2 (by omega)
 subst hT
 subst hd
 have hs2:¬ T0.size < 1:=by omega
 subst he
 go_enter Tryz.func180,Tryz.ntmps180
 go_wp2_with (first | (go_at_call 197;first | ((with_reducible refine (HD.out _).mono ?_);rintro e w1 ⟨rfl,rfl⟩) | ((with_reducible refine (HT.out _).mono ?_);rintro e w1 ⟨rfl,rfl⟩)) | (go_at_call 198;first | ((with_reducible refine (HF.out _).mono ?_);rintro e w1 ⟨rfl,rfl⟩) | ((with_reducible refine (HX.out _).mono ?_);rintro e w1 ⟨rfl,rfl⟩)))
 go_ret2
 exact ⟨rfl,rfl⟩
set_option maxHeartbeats 1000000 in
theorem pow_E2_p (S:ByteArray) (k:Nat) (w:World) (hz:S.size ≤ 1000000000000000001)
  (HD:Hid (∀ W,Calls Tryz.prog 197 #[.string S,.int .i64 0] W fun e w'=>e = .returned (.int .i64 (k:Nat)) ∧ W = w'))
  (h0:0 < k) (h:k ≤ 16) (hk:k < S.size) (hp:((S[k].toNat:Int) != 112) = false) (T0:ByteArray) (hT0:S.extract (k + 1) S.size = T0) (T:ByteArray) (hl0:0 < T0.size) (hl1:T0.size ≤ 1000000000000000001) (hh:((T0[0].toNat:Int) == 45) = false) (hT:T0 = T) (d:Nat) (hs:1 ≤ T.size) (hs4:T.size ≤ 4) (HT:Hid (∀ W,Calls Tryz.prog 197 #[.string T,.int .i64 0] W fun e w'=>e = .returned (.int .i64 (d:Nat)) ∧ W = w')) (hd:d = T.size) (FF:ByteArray) (hF:S.extract 0 k = FF) (m x:Nat) (e1 e2:Int) (HF:Hid (∀ W,Calls Tryz.prog 198 #[.string FF] W fun e w'=>e = .returned (.tuple #[.int .u64 m,.int .i64 e1]) ∧ W = w')) (HX:Hid (∀ W,Calls Tryz.prog 198 #[.string T] W fun e w'=>e = .returned (.tuple #[.int .u64 x,.int .i64 e2]) ∧ W = w')) (he:e1 = 0) (he2:e2 = 101) :
  Calls Tryz.prog 180 #[.string S] w fun e w'=>e = .returned (.tuple #[fv 0,.bool false]) ∧ w = w':=by
 have hk0:((k:Int) == 0) = false:=beq_eq_false_iff_ne.2 (by omega)
 subst hT
 subst hd
 have hs2:¬ T0.size < 1:=by omega
 subst he
 subst he2
 go_enter Tryz.func180,Tryz.ntmps180
 go_wp2_with (first | (go_at_call 197;first | ((with_reducible refine (HD.out _).mono ?_);rintro e w1 ⟨rfl,rfl⟩) | ((with_reducible refine (HT.out _).mono ?_);rintro e w1 ⟨rfl,rfl⟩)) | (go_at_call 198;first | ((with_reducible refine (HF.out _).mono ?_);rintro e w1 ⟨rfl,rfl⟩) | ((with_reducible refine (HX.out _).mono ?_);rintro e w1 ⟨rfl,rfl⟩)))
 go_ret2
 exact ⟨rfl,rfl⟩
set_option maxHeartbeats 1000000 in
theorem pow_ok_p (S:ByteArray) (k:Nat) (w:World) (hz:S.size ≤ 1000000000000000001)
  (HD:Hid (∀ W,Calls Tryz.prog 197 #[.string S,.int .i64 0] W fun e w'=>e = .returned (.int .i64 (k:Nat)) ∧ W = w'))
  (h0:0 < k) (h:k ≤ 16) (hk:k < S.size) (hp:((S[k].toNat:Int) != 112) = false) (T0:ByteArray) (hT0:S.extract (k + 1) S.size = T0) (T:ByteArray) (hl0:0 < T0.size) (hl1:T0.size ≤ 1000000000000000001) (hh:((T0[0].toNat:Int) == 45) = false) (hT:T0 = T) (d:Nat) (hs:1 ≤ T.size) (hs4:T.size ≤ 4) (HT:Hid (∀ W,Calls Tryz.prog 197 #[.string T,.int .i64 0] W fun e w'=>e = .returned (.int .i64 (d:Nat)) ∧ W = w')) (hd:d = T.size) (FF:ByteArray) (hF:S.extract 0 k = FF) (m x:Nat) (e1 e2:Int) (HF:Hid (∀ W,Calls Tryz.prog 198 #[.string FF] W fun e w'=>e = .returned (.tuple #[.int .u64 m,.int .i64 e1]) ∧ W = w')) (HX:Hid (∀ W,Calls Tryz.prog 198 #[.string T] W fun e w'=>e = .returned (.tuple #[.int .u64 x,.int .i64 e2]) ∧ W = w')) (he:e1 = 0) (he2:e2 = 0) (hx:x ≤ 9999) :
  Calls Tryz.prog 180 #[.string S] w fun e w'=>e = .returned (.tuple #[fv (itr false x (fl m)),.bool ((txt (itr false x (fl m))).toList == S.toList)]) ∧ Below w.heap.size w w':=by
 have hk0:((k:Int) == 0) = false:=beq_eq_false_iff_ne.2 (by omega)
 subst hT
 subst hd
 have hs2:¬ T0.size < 1:=by omega
 subst he
 subst he2
 have hcv:=fun W=>conv_uf m W
 go_enter Tryz.func180,Tryz.ntmps180
 go_wp2_with (first | (go_at_call 197;first | ((with_reducible refine (HD.out _).mono ?_);rintro e w1 ⟨rfl,rfl⟩) | ((with_reducible refine (HT.out _).mono ?_);rintro e w1 ⟨rfl,rfl⟩)) | (go_at_call 198;first | ((with_reducible refine (HF.out _).mono ?_);rintro e w1 ⟨rfl,rfl⟩) | ((with_reducible refine (HX.out _).mono ?_);rintro e w1 ⟨rfl,rfl⟩)))
 go_loop [11,12] (fun v i=>∃ j:Nat,i = .int .u64 j ∧ j ≤ x ∧ v = fv (itr false j (fl m))) (fun _ i=>x - (intOf i).toNat)
 case atStart=>exact ⟨0,rfl,Nat.zero_le _,rfl⟩
 case round =>
  obtain ⟨j,rfl,hj,rfl⟩:=hrel
  by_cases hlt:j < x
  ·have hst:=(stp_ok false (itr false j (fl m)) (itr_le _ _ _ (fl_inf m))).1
   simp only [Bool.false_eq_true,if_false,if_true] at hst
   have hop:=fun W=>run_float_arith (P:=Tryz.prog) W .mul 45 .f64 (itr false j (fl m)) two (stp false (itr false j (fl m))) hst
   unfold two at hop
   have HN:Hid (stp false (itr false j (fl m)) = itr false (j + 1) (fl m)):=rfl
   clear hst
   generalize stp false (itr false j (fl m)) = y at *
   generalize itr false j (fl m) = z at *
   have hw:IntKind.u64.wrap ((j:Int) + 1) = ((j + 1:Nat):Int):=by rw [IntKind.wrap_u64];omega
   go_wp2_with fail
   go_round
   case rel=>exact ⟨j + 1,by go_num,by omega,by rw [HN.out]⟩
   case measure=>simp [intOf];omega
  ·obtain rfl:j = x:=by omega
   have HXT:=Lib.hid (fun W=>rText_any (itr false j (fl m)) W (Nat.lt_of_le_of_lt (itr_le _ _ _ (fl_inf m)) (by unfold INF;omega)))
   generalize hz1:itr false j (fl m) = z at *
   generalize hz2:txt z = Z at *
   have HZ1:=Lib.hid hz1
   have HZ2:=Lib.hid hz2
   clear hz1 hz2
   go_wp2_with fail
   (with_reducible refine (HXT.out _).mono ?_);rintro e w2 ⟨rfl,hb2⟩
   go_wp2_with fail
   go_ret2
   exact ⟨by rw [HZ1.out,HZ2.out];rfl,hb2⟩
end Go.Proofs.YtmfpmandkhiknaaGreatDoor.flt
namespace Go.Proofs.YtmfpmandkhiknaaGreatDoor.flt
open Go Ieee Go.RowKit
open num (decL decF decF_len decF_more)
theorem decF_down (f x:Nat) (h:x < 10 ^ (f + 1)):∀ g,decF (f + g) x = decF f x
 | 0=>rfl
 | g + 1=>by
  rw [← Nat.add_assoc,decF_more (f + g) x (Nat.lt_of_lt_of_le h (Nat.pow_le_pow_right (by omega) (by omega))),decF_down f x h g]
theorem decL_len (f x:Nat) (hf:f ≤ 19) (h:x < 10 ^ (f + 1)):(decL x).length ≤ f + 1:=by
 have e:decL x = decF f x:=by
  unfold decL
  have:=decF_down f x h (19 - f)
  rw [show f + (19 - f) = 19 by omega] at this
  exact this
 rw [e]
 exact (decF_len f x).2
theorem foldl_num:∀ (l:List UInt8) (x:Nat),l.foldl (fun x c=>x * 10 + (c.toNat - 48)) x = x * 10 ^ l.length + numL l
 | [],x=>by simp [numL]
 | c :: l,x=>by
  unfold numL
  rw [List.foldl_cons,List.foldl_cons,foldl_num l,foldl_num l (0 * 10 + (c.toNat - 48)),List.length_cons,Nat.pow_succ]
  rw [Nat.zero_mul,Nat.zero_add,Nat.add_mul,Nat.mul_assoc,Nat.mul_comm 10 (10 ^ l.length),Nat.add_assoc]
theorem numL_append (a b:List UInt8):numL (a ++ b) = numL a * 10 ^ b.length + numL b:=by
 unfold numL
 rw [List.foldl_append]
 exact foldl_num b _
end Go.Proofs.YtmfpmandkhiknaaGreatDoor.flt
namespace Go.Proofs.YtmfpmandkhiknaaGreatDoor.flt
open Go.RowKit Ieee
set_option maxRecDepth 100000
theorem cutL_app {c:UInt8} {f x:List UInt8} (h:c ∉ f):cutL c (f ++ x) = (f ++ (cutL c x).1,(cutL c x).2.1,(cutL c x).2.2):=by
 induction f with
 | nil=>simp
 | cons y f ih =>
  rw [List.mem_cons,not_or] at h
  rw [List.cons_append,cutL,if_neg (fun e=>h.1 e.symm),ih h.2];rfl
theorem get_mid (f:List UInt8) (c:UInt8) (r:List UInt8) (h:f.length < (⟨(f ++ c :: r).toArray⟩:ByteArray).size):(⟨(f ++ c :: r).toArray⟩:ByteArray)[f.length] = c:=by
 have:=get_list (SS:=⟨(f ++ c :: r).toArray⟩) (L:=f ++ c :: r) rfl f.length h
 rw [← this]
 simp
theorem digB_iff (l:List UInt8):digB l = true ↔ l.all isD = true ∧ 1 ≤ l.length:=by
 unfold digB
 cases l <;> simp
theorem rdecimal_all (l:List UInt8) (w:World) (hs:l.length ≤ 1000000000000000000) :
  Calls Tryz.prog 179 #[.string ⟨l.toArray⟩] w fun e w'=>e = .returned (.tuple #[fv (decVL l),.bool (decOkL l)]) ∧ w = w':=by
 have hS:(⟨l.toArray⟩:ByteArray).size = l.length:=str_size l
 have HD:Hid (∀ W,Calls Tryz.prog 197 #[.string ⟨l.toArray⟩,.int .i64 0] W fun e w'=>e = .returned (.int .i64 ((dg l:Nat):Int)) ∧ W = w'):=
  fun W=>(rdigits_any ⟨l.toArray⟩ 0 W (Nat.zero_le _) (by rw [hS];omega))
 have bad:decOkL l = false → (∀ {P:Ending → World → Prop},True) → decVL l = 0:=fun h _=>by
  unfold decVL decV;unfold decOkL at h;rw [h];rfl
 have no:decOkL l = false → Calls Tryz.prog 179 #[.string ⟨l.toArray⟩] w (fun e w'=>e = .returned (.tuple #[fv 0,.bool false]) ∧ w = w') → Calls Tryz.prog 179 #[.string ⟨l.toArray⟩] w (fun e w'=>e = .returned (.tuple #[fv (decVL l),.bool (decOkL l)]) ∧ w = w'):=fun h1 h2=>by
  have e:decVL l = 0:=by unfold decVL decV;unfold decOkL at h1;rw [h1];rfl
  rw [h1,e];exact h2
 obtain ⟨f,r,hl,hf,hlen,hr⟩:=dg_split l
 rw [← hlen] at HD
 have yes:∀ (g b:List UInt8) (pt:Bool),cutL 46 l = (g,b,pt) → decOkL l = true → ∃ q,decVL l = q ∧ fop .quo (fl (numL (g ++ b))) (fl (10 ^ b.length)) = some q:=by
  intro g b pt hc hok
  have hok':=hok
  unfold decOkL at hok
  rw [hc] at hok
  unfold decOk at hok
  simp only [Bool.and_eq_true,decide_eq_true_iff,Bool.or_eq_true,Bool.not_eq_true'] at hok
  obtain ⟨⟨h1,h2⟩,h3⟩:=hok
  have hall:(g ++ b).all isD = true:=by
   rw [List.all_append,Bool.and_eq_true]
   refine ⟨((digB_iff g).1 h1).1,?_⟩
   rcases h2 with h2 | h2
   ·rcases cutL_cases 46 l with ⟨_,h⟩ | ⟨a,b',_,_,h⟩
    ·rw [hc] at h;cases h;rfl
    ·rw [hc] at h;cases h;cases h2
   ·exact ((digB_iff b).1 h2).1
  have hb1:=numL_lt _ hall
  rw [List.length_append] at hb1
  have hb2:=pow_le15 (g.length + b.length) (by omega)
  have hb3:=pow_le15 b.length (by omega)
  obtain ⟨q,hq,_⟩:=quo_some (fl (numL (g ++ b))) (fl (10 ^ b.length)) (fin_fl _ (by omega)) (fl_pos _ (Nat.pow_pos (by omega)) (by omega)).1 (fl_pos _ (Nat.pow_pos (by omega)) (by omega)).2
  refine ⟨q,?_,hq⟩
  unfold decVL decV
  unfold decOkL at hok'
  rw [hok',if_pos rfl,hc]
  unfold decQ
  simp only
  rw [hq];rfl
 rcases hr with rfl | ⟨c,r',rfl,hcd⟩
 ·rw [List.append_nil] at hl
  subst hl
  have hc:cutL 46 l = (l,[],false):=cutL_none (all_not hf 46 (by decide))
  have hext:(⟨l.toArray⟩:ByteArray).extract 0 l.length = ⟨l.toArray⟩:=by
   rw [← hS];exact ByteArray.extract_zero_size
  by_cases h0:l.length = 0
  ·refine no ?_ (rdec_no0_np _ _ l.length 0 w (by rw [hS];omega) hS.symm rfl hext HD h0)
   unfold decOkL
   rw [hc]
   have:l = []:=List.eq_nil_of_length_eq_zero h0
   subst this
   rfl
  ·by_cases h15:l.length ≤ 15
   ·have hok:decOkL l = true:=by
     unfold decOkL;rw [hc];unfold decOk
     rw [(digB_iff l).2 ⟨hf,by omega⟩]
     simp;omega
    obtain ⟨q,e1,e2⟩:=yes l [] false hc hok
    rw [hok,e1]
    exact rdec_yes_np _ _ l.length 0 w (by rw [hS];omega) hS.symm rfl hext HD q l (by omega) (by rw [hS];exact h15) rfl hf (by omega) (by rw [List.append_nil] at e2;exact e2)
   ·refine no ?_ (rdec_no1_np _ _ l.length 0 w (by rw [hS];omega) hS.symm rfl hext HD (by omega) (by rw [hS];omega))
    unfold decOkL;rw [hc];unfold decOk
    have:decide (l.length + ([]:List UInt8).length ≤ 15) = false:=decide_eq_false (by simpa using h15)
    rw [this,Bool.and_false]
 ·have hll:l.length = f.length + 1 + r'.length:=by rw [hl];simp;omega
  have hk:f.length < (⟨l.toArray⟩:ByteArray).size:=by rw [hS];omega
  have hget:(⟨l.toArray⟩:ByteArray)[f.length] = c:=by
   subst hl;exact get_mid f c r' hk
  by_cases h46:c = 46
  ·subst h46
   have hc:cutL 46 l = (f,r',true):=by rw [hl];exact cutL_some (all_not hf 46 (by decide))
   have hdr:l.drop (f.length + 1) = r':=by rw [hl];simp
   have HE:Hid (∀ W,Calls Tryz.prog 197 #[.string ⟨l.toArray⟩,.int .i64 ((f.length:Int) + 1)] W fun e w'=>e = .returned (.int .i64 ((dg r':Nat):Int)) ∧ W = w'):=fun W=>by
    have:=rdigits_any ⟨l.toArray⟩ (f.length + 1) W (by rw [hS];omega) (by rw [hS];omega)
    have e:(⟨l.toArray⟩:ByteArray).data.toList.drop (f.length + 1) = r':=hdr
    rw [e] at this
    exact this
   have hne:(((⟨l.toArray⟩:ByteArray)[f.length].toNat:Int) == 46) = true:=by rw [hget];rfl
   have hdl:=dg_le r'
   have hok:decOkL l = (digB f && (digB r' && decide (f.length + r'.length ≤ 15))):=by
    unfold decOkL;rw [hc];unfold decOk;simp [Bool.and_assoc]
   by_cases hm:dg r' = 0 ∨ f.length + 1 + dg r' ≠ (⟨l.toArray⟩:ByteArray).size
   ·refine no ?_ (rdec_less _ f.length (dg r') w (by rw [hS];omega) hk hne HD HE (by rw [hS];omega) hm)
    rw [hok]
    have:digB r' = false:=by
     cases hb:digB r' with
     | false=>rfl
     | true =>
      exfalso
      have h1:=(digB_iff r').1 hb
      have h2:=dg_full.2 h1.1
      rw [hS] at hm
      omega
    rw [this];simp
   ·have hm0:0 < dg r':=by omega
    have hsz:f.length + 1 + dg r' = (⟨l.toArray⟩:ByteArray).size:=by omega
    have hdr2:dg r' = r'.length:=by rw [hS] at hsz;omega
    have hrall:=dg_full.1 hdr2
    have hext:(⟨l.toArray⟩:ByteArray).extract 0 f.length ++ (⟨l.toArray⟩:ByteArray).extract (f.length + 1) (⟨l.toArray⟩:ByteArray).size = ⟨(f ++ r').toArray⟩:=by
     subst hl
     rw [ext_front,ext_back 46 f r' _ hS]
     apply ByteArray.ext
     apply Array.toList_inj.1
     simp [ByteArray.data_append]
    have hsz2:(⟨(f ++ r').toArray⟩:ByteArray).size = f.length + r'.length:=by rw [str_size];simp
    have hrb:digB r' = true:=(digB_iff r').2 ⟨hrall,by omega⟩
    by_cases h0:f.length = 0
    ·refine no ?_ (rdec_no0_pt _ _ f.length (dg r') w (by rw [hS];omega) hk hne hm0 hsz hext HD HE h0)
     rw [hok]
     have:f = []:=List.eq_nil_of_length_eq_zero h0
     subst this
     rfl
    ·by_cases h15:f.length + r'.length ≤ 15
     ·have hok2:decOkL l = true:=by rw [hok,hrb,(digB_iff f).2 ⟨hf,by omega⟩,decide_eq_true h15];rfl
      obtain ⟨q,e1,e2⟩:=yes f r' true hc hok2
      rw [hok2,e1]
      exact rdec_yes_pt _ _ f.length (dg r') w (by rw [hS];omega) hk hne hm0 hsz hext HD HE q (f ++ r') (by omega) (by rw [hsz2];exact h15) rfl (by rw [List.all_append,hf,hrall];rfl) (by omega) (by rw [hdr2];exact e2)
     ·refine no ?_ (rdec_no1_pt _ _ f.length (dg r') w (by rw [hS];omega) hk hne hm0 hsz hext HD HE (by omega) (by rw [hsz2];omega))
      rw [hok,decide_eq_false h15];simp
  ·have hne:(((⟨l.toArray⟩:ByteArray)[f.length].toNat:Int) == 46) = false:=by
    rw [hget]
    refine beq_eq_false_iff_ne.2 (fun e=>h46 (UInt8.toNat_inj.1 ?_))
    have h46n:(46:UInt8).toNat = 46:=rfl
    rw [h46n];omega
   refine no ?_ (rdec_bad _ f.length w (by rw [hS];omega) hk hne HD)
   unfold decOkL
   rw [hl,cutL_app (all_not hf 46 (by decide)),cutL,if_neg h46]
   unfold decOk
   have:digB (f ++ c :: (cutL 46 r').1) = false:=by
    unfold digB
    rw [List.all_append,List.all_cons,hcd]
    simp
   rw [this];rfl
end Go.Proofs.YtmfpmandkhiknaaGreatDoor.flt
