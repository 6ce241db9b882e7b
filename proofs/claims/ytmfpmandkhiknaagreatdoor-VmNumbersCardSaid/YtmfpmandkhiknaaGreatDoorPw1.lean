/-
  Proved: plain laws of floats by their bits. Conditions: as each theorem says. No program is in sight.
  Proved: what the small Go functions on floats return. Conditions: as each theorem says.
  Proved: plain laws of the values of floats. Conditions: as each theorem says. No program is in sight.
  Proved: plain laws of rounding, sums, products of floats. Conditions: as each theorem says. No program is in sight.
  Proved: plain laws of whole floats. Conditions: as each theorem says. No program is in sight.
  Proved: what Whole returns, in the code and in the document's answer. Conditions: as each theorem says.
  Proved: plain facts on numbers as bytes and as decimal digits: that what is written is read back, step by step. Conditions: as each theorem says. No program is in sight.
  Proved: what the Go functions of package num, and of orielref1, return for every argument; and that both return the same. Conditions: a text has at most maxLen bytes.
  Proved: what the Go functions num.Dec, num.OfDec, orielref1.Dec and orielref1.OfDec return for every argument; each pair returns the same. Conditions: a text has at most maxLen bytes.
  Proved: what parts, sized and Text return, in the code and in the document's answer. Conditions: as each theorem says.
  Proved: plain laws of exact products, quotients by powers of two, differences of floats. Conditions: as each theorem says. No program is in sight.
  Proved: plain laws of scaling floats by powers of two. Conditions: as each theorem says. No program is in sight.
  Proved: plain laws of the rest of a division of floats. Conditions: as each theorem says. No program is in sight.
  Proved: what Abs, IsInf, IsNaN, normalize, Frexp and Ldexp of package math return. Conditions: as each theorem says.
-/
import Derived.Laws.FloatArith
import Derived.Below
import Derived.Laws.NewFold
import Derived.Test.YtmfpmandkhiknaaGreatDoorRows
import Derived.WalkKit
import Derived.WalkLawsBesides
import Derived.WalkSpells
import Derived.Outline
import Derived.Lib.Hide
import Derived.Laws.Bits64b
import Derived.Laws.BytesArg
import Derived.Deep.RegionWith
import Derived.IntWalk
set_option linter.unusedVariables false
set_option linter.unusedSimpArgs false
namespace Go.Proofs.YtmfpmandkhiknaaGreatDoor.flt
open Go Ieee Go.RowKit
def nanB (b:Nat):Bool:=(double.read b).isNaN
def FR (o:Option Nat) (r:Nat):Prop:=(∀ x,o = some x → r = x) ∧ (o = none → nanB r = true) ∧ r < 18446744073709551616
def fop (op:BinOp) (x y:Nat):Option Nat:=floatBits op .f64 x y
def fr (op:BinOp) (x y:Nat) (w:World):Nat:=match fop op x y with
 | some r=>r
 | none=>(Question.nanBits .f64 x y).cut (w.tape w.drawn (.nanBits .f64 x y))
def fw (op:BinOp) (x y:Nat) (w:World):World:=match fop op x y with
 | some _=>w
 | none=>w.drew
theorem nan_cut (x y t:Nat):nanB ((Question.nanBits .f64 x y).cut t) = true ∧ (Question.nanBits .f64 x y).cut t < 18446744073709551616:=by
 have h:(Question.nanBits .f64 x y).cut t = (t % 2) * 9223372036854775808 + 9218868437227405312 + 1 + (t / 2) % 4503599627370495:=rfl
 rw [h]
 have h2:(t / 2) % 4503599627370495 < 4503599627370495:=Nat.mod_lt _ (by omega)
 generalize (t / 2) % 4503599627370495 = u at *
 refine ⟨?_,by omega⟩
 have h3:(t % 2) * 9223372036854775808 + 9218868437227405312 + 1 + u = (t % 2) * 9223372036854775808 + (9218868437227405313 + u):=by omega
 rw [h3]
 have e1:double.signWeight = 9223372036854775808:=by decide
 have e2:double.binade = 4503599627370496:=by decide
 have e3:double.infRung = 9218868437227405312:=by decide
 unfold nanB Format.read
 simp only [e1,e2,e3]
 have h4:((t % 2) * 9223372036854775808 + (9218868437227405313 + u)) % 9223372036854775808 = 9218868437227405313 + u:=by omega
 rw [h4,if_neg (by omega),if_neg (by omega),if_neg (by omega)]
 rfl
theorem fop_lt {op:BinOp} {x y r:Nat} (h:fop op x y = some r):r < 18446744073709551616:=by
 have:=floatBits_wf h
 simpa [Lit.wf] using this
theorem fr_ok (op:BinOp) (x y:Nat) (w:World):FR (fop op x y) (fr op x y w):=by
 unfold FR fr
 split
 ·rename_i r h;rw [h];exact ⟨fun x hx=>Option.some.inj hx,fun hx=>(by cases hx),fop_lt h⟩
 ·rename_i h;rw [h];exact ⟨fun x hx=>(by cases hx),fun _=>(nan_cut x y _).1,(nan_cut x y _).2⟩
theorem fw_cases (op:BinOp) (x y:Nat) (w:World):fw op x y w = w ∨ fw op x y w = w.drew:=by
 unfold fw
 split
 ·exact .inl rfl
 ·exact .inr rfl
theorem run_f {P:Program} (op:BinOp) (hop:op = .add ∨ op = .sub ∨ op = .mul ∨ op = .quo) (t:TypeId) (x y:Nat) (w:World) :
  (binOp op t (.float .f64 x) (.float .f64 y)).run P w = .ok (.float .f64 (fr op x y w)) (fw op x y w):=by
 unfold fr fw
 cases h:fop op x y with
 | some r=>exact run_float_arith w op t .f64 x y r h
 | none =>
  rcases hop with rfl | rfl | rfl | rfl <;>
  ·have h':=h
   unfold fop floatBits at h'
   simp only at h'
   simp [binOp,Op.floatArith,h',run_choose_drew,Question.forced]
theorem run_add {P:Program} (t:TypeId) (x y:Nat) (w:World):(binOp .add t (.float .f64 x) (.float .f64 y)).run P w = .ok (.float .f64 (fr .add x y w)) (fw .add x y w):=run_f _ (by simp) t x y w
theorem run_sub {P:Program} (t:TypeId) (x y:Nat) (w:World):(binOp .sub t (.float .f64 x) (.float .f64 y)).run P w = .ok (.float .f64 (fr .sub x y w)) (fw .sub x y w):=run_f _ (by simp) t x y w
theorem run_mul {P:Program} (t:TypeId) (x y:Nat) (w:World):(binOp .mul t (.float .f64 x) (.float .f64 y)).run P w = .ok (.float .f64 (fr .mul x y w)) (fw .mul x y w):=run_f _ (by simp) t x y w
theorem run_quo {P:Program} (t:TypeId) (x y:Nat) (w:World):(binOp .quo t (.float .f64 x) (.float .f64 y)).run P w = .ok (.float .f64 (fr .quo x y w)) (fw .quo x y w):=run_f _ (by simp) t x y w
theorem fw_below (op:BinOp) (x y:Nat) {n:Nat} {W w:World} (h:Below n W w):Below n W (fw op x y w):=by
 rcases fw_cases op x y w with h1 | h1 <;> rw [h1]
 ·exact h
 ·exact h.drew
theorem order_self (b:Nat):(double.order b b == some .eq) = !nanB b:=by
 unfold Format.order nanB
 cases h:double.read b with
 | number s m i=>simp [Datum.order,Datum.isNaN]
 | infinity s=>simp [Datum.order,Datum.isNaN]
 | nan s t=>simp [Datum.order,Datum.isNaN]
def ng (b:Nat):Nat:=if b < 9223372036854775808 then b + 9223372036854775808 else b - 9223372036854775808
theorem xor_low (b:Nat) (h:b < 9223372036854775808):b ^^^ 9223372036854775808 = 9223372036854775808 + b:=by
 have e:(9223372036854775808:Nat) = 2 ^ 63:=by decide
 rw [e] at h ⊢
 apply Nat.eq_of_testBit_eq
 intro i
 rw [Nat.testBit_xor,Nat.testBit_two_pow]
 rcases Nat.lt_trichotomy i 63 with hi | rfl | hi
 ·rw [Nat.testBit_two_pow_add_gt hi]
  simp [show ¬ 63 = i by omega]
 ·rw [Nat.testBit_two_pow_add_eq]
  simp
 ·have h1:b < 2 ^ i:=Nat.lt_trans h (Nat.pow_lt_pow_right (by omega) hi)
  have h2:2 ^ 63 + b < 2 ^ i:=by
   have:2 ^ 64 ≤ 2 ^ i:=Nat.pow_le_pow_right (by omega) (by omega)
   have e2:(2:Nat) ^ 64 = 2 ^ 63 + 2 ^ 63:=by decide
   omega
  rw [Nat.testBit_lt_two_pow h1,Nat.testBit_lt_two_pow h2]
  simp [show ¬ 63 = i by omega]
theorem xor_high (b:Nat) (h:b < 18446744073709551616):b ^^^ 9223372036854775808 = ng b:=by
 unfold ng
 split
 ·rename_i h1;rw [xor_low b h1,Nat.add_comm]
 ·obtain ⟨c,rfl⟩:∃ c,b = 9223372036854775808 + c:=⟨b - 9223372036854775808,by omega⟩
  rw [← xor_low c (by omega),Nat.xor_assoc,Nat.xor_self,Nat.xor_zero,xor_low c (by omega)]
  omega
theorem neg_ng (b:Nat) (h:b < 18446744073709551616):Op.negFloat .f64 b = ng b:=xor_high b h
theorem ng_lt (b:Nat) (h:b < 18446744073709551616):ng b < 18446744073709551616:=by unfold ng;split <;> omega
theorem ng_ng (b:Nat) (h:b < 18446744073709551616):ng (ng b) = b:=by unfold ng;split <;> split <;> omega
end Go.Proofs.YtmfpmandkhiknaaGreatDoor.flt
namespace Go.Proofs.YtmfpmandkhiknaaGreatDoor.flt
open Go.RowKit Ieee
abbrev fv (b:Nat):Value:=.float .f64 b
theorem run_bits (b:Nat) (w:World):(callFunc 66 #[.float .f64 b]).run Tryz.prog w = .ok (.value (.int .u64 b)) w:=by
 rw [run_callFunc_extern Tryz.func66 (by kernel_rfl) (by kernel_rfl) (by kernel_rfl) (e:=Extern.MathFloatBits.float64bits) (by kernel_rfl)]
 rfl
theorem run_frombits (n:Int) (w:World):(callFunc 65 #[.int .u64 n]).run Tryz.prog w = .ok (.value (.float .f64 n.toNat)) w:=by
 rw [run_callFunc_extern Tryz.func65 (by kernel_rfl) (by kernel_rfl) (by kernel_rfl) (e:=Extern.MathFloatBits.float64frombits) (by kernel_rfl)]
 rfl
theorem fmt64:FloatKind.f64.format = double:=rfl
attribute [local go_sem] fmt64 run_bits run_frombits run_add run_sub run_mul run_quo
set_option maxRecDepth 100000
theorem Add_any (a b:Nat) (w:World):Calls Tryz.prog 162 #[fv a,fv b] w fun e w'=>∃ r,e = .returned (fv r) ∧ FR (fop .add a b) r ∧ Below w.heap.size w w':=by
 go_enter Tryz.func162,Tryz.ntmps162
 go_wp2_with fail
 go_ret
 exact ⟨_,rfl,fr_ok _ _ _ _,fw_below _ _ _ (Below.refl _ _)⟩
theorem Sub_any (a b:Nat) (w:World):Calls Tryz.prog 163 #[fv a,fv b] w fun e w'=>∃ r,e = .returned (fv r) ∧ FR (fop .sub a b) r ∧ Below w.heap.size w w':=by
 go_enter Tryz.func163,Tryz.ntmps163
 go_wp2_with fail
 go_ret
 exact ⟨_,rfl,fr_ok _ _ _ _,fw_below _ _ _ (Below.refl _ _)⟩
theorem Div_any (a b:Nat) (w:World):Calls Tryz.prog 165 #[fv a,fv b] w fun e w'=>∃ r,e = .returned (fv r) ∧ FR (fop .quo a b) r ∧ Below w.heap.size w w':=by
 go_enter Tryz.func165,Tryz.ntmps165
 go_wp2_with fail
 go_ret
 exact ⟨_,rfl,fr_ok _ _ _ _,fw_below _ _ _ (Below.refl _ _)⟩
theorem run_conv_ff (b:Nat) (w:World):(convert 45 45 (.float .f64 b)).run Tryz.prog w = .ok (.float .f64 b) w:=
 run_convert_float_float w _ _ .f64 .f64 b b (by kernel_rfl) (by kernel_rfl) (by simp [floatToFloatBits])
attribute [local go_sem] run_conv_ff
theorem Mul_any (a b:Nat) (w:World):Calls Tryz.prog 164 #[fv a,fv b] w fun e w'=>∃ r,e = .returned (fv r) ∧ FR (fop .mul a b) r ∧ Below w.heap.size w w':=by
 go_enter Tryz.func164,Tryz.ntmps164
 go_wp2_with fail
 go_ret
 exact ⟨_,rfl,fr_ok _ _ _ _,fw_below _ _ _ (Below.refl _ _)⟩
theorem run_neg {P:Program} (b:Nat) (w:World):(Op.unary .neg (.float .f64 b)).run P w = .ok (.float .f64 (Op.negFloat .f64 b)) w:=by
 simp [Op.unary]
theorem ret_f {a b:Nat} (h:a = b):Ending.returned (fv a) = .returned (fv b):=by rw [h]
theorem ret_b {a b:Bool} (h:a = b):Ending.returned (.bool a) = .returned (.bool b):=by rw [h]
theorem bits_xor (a:Nat) (h:a < 18446744073709551616):bits .xor .u64 (a:Int) 9223372036854775808 = (ng a:Nat):=by
 have hl:=ng_lt a h
 have e:(BitVec.ofInt 64 (a:Int) ^^^ BitVec.ofInt 64 9223372036854775808).toNat = ng a:=by
  rw [BitVec.toNat_xor,BitVec.ofInt_natCast,BitVec.toNat_ofNat,Nat.mod_eq_of_lt h]
  exact xor_high a h
 show IntKind.u64.wrap (((BitVec.ofInt 64 (a:Int) ^^^ BitVec.ofInt 64 9223372036854775808).toNat:Nat):Int) = _
 rw [e,IntKind.wrap_u64]
 omega
theorem bits_size (a:Nat) (h:a < 18446744073709551616):bits .andNot .u64 (a:Int) 9223372036854775808 = (a % 9223372036854775808:Nat):=by
 have e:(BitVec.ofInt 64 (a:Int) &&& ~~~ BitVec.ofInt 64 9223372036854775808).toNat = a % 9223372036854775808:=by
  rw [BitVec.toNat_and,BitVec.ofInt_natCast,BitVec.toNat_ofNat,Nat.mod_eq_of_lt h]
  exact Nat.and_two_pow_sub_one_eq_mod a 63
 show IntKind.u64.wrap (((BitVec.ofInt 64 (a:Int) &&& ~~~ BitVec.ofInt 64 9223372036854775808).toNat:Nat):Int) = _
 rw [e,IntKind.wrap_u64]
 omega
attribute [local go_sem] run_neg
theorem Neg_any (a:Nat) (w:World) (h:a < 18446744073709551616):Calls Tryz.prog 88 #[fv a] w fun e w'=>e = .returned (fv (ng a)) ∧ w = w':=by
 have hn:=neg_ng a h
 go_enter Tryz.func88,Tryz.ntmps88
 go_wp2_with fail
 go_ret
 exact ⟨rfl,rfl⟩
theorem rNeg_any (a:Nat) (w:World) (h:a < 18446744073709551616):Calls Tryz.prog 47 #[fv a] w fun e w'=>e = .returned (fv (ng a)) ∧ w = w':=by
 have hn:=neg_ng a h
 go_enter Tryz.func47,Tryz.ntmps47
 go_wp2_with fail
 go_ret
 exact ⟨ret_f (by rw [bits_xor a h];rfl),rfl⟩
theorem size_any (a:Nat) (w:World) (h:a < 18446744073709551616):Calls Tryz.prog 45 #[fv a] w fun e w'=>e = .returned (fv (a % 9223372036854775808)) ∧ w = w':=by
 go_enter Tryz.func45,Tryz.ntmps45
 go_wp2_with fail
 go_ret
 exact ⟨ret_f (by rw [bits_size a h];rfl),rfl⟩
theorem below_any (a:Nat) (w:World) (h:a < 18446744073709551616):Calls Tryz.prog 158 #[fv a] w fun e w'=>e = .returned (.bool (decide (9223372036854775808 ≤ a))) ∧ w = w':=by
 go_enter Tryz.func158,Tryz.ntmps158
 go_wp2_with fail
 go_ret
 exact ⟨ret_b (by rw [Bool.eq_iff_iff,beq_iff_eq,decide_eq_true_iff];omega),rfl⟩
theorem rbelow_any (a:Nat) (w:World) (h:a < 18446744073709551616):Calls Tryz.prog 46 #[fv a] w fun e w'=>e = .returned (.bool (decide (9223372036854775808 ≤ a))) ∧ w = w':=by
 go_enter Tryz.func46,Tryz.ntmps46
 go_wp2_with fail
 go_ret
 exact ⟨ret_b (by rw [Bool.eq_iff_iff,beq_iff_eq,decide_eq_true_iff];omega),rfl⟩
theorem Equal_any (a b:Nat) (w:World):Calls Tryz.prog 121 #[fv a,fv b] w fun e w'=>e = .returned (.bool (double.order a b == some .eq)) ∧ w = w':=by
 go_enter Tryz.func121,Tryz.ntmps121
 go_wp2_with fail
 go_ret
 exact ⟨rfl,rfl⟩
theorem Less_any (a b:Nat) (w:World):Calls Tryz.prog 122 #[fv a,fv b] w fun e w'=>e = .returned (.bool (double.order a b == some .lt)) ∧ w = w':=by
 go_enter Tryz.func122,Tryz.ntmps122
 go_wp2_with fail
 go_ret
 exact ⟨rfl,rfl⟩
def trueB (a:Nat):Bool:=double.order a 0 != some .eq && !nanB a
theorem True_any (a:Nat) (w:World):Calls Tryz.prog 114 #[fv a] w fun e w'=>e = .returned (.bool (trueB a)) ∧ w = w':=by
 have o1:=order_self a
 unfold trueB
 cases hA:nanB a <;> rw [hA] at o1 <;>
 ·go_enter Tryz.func114,Tryz.ntmps114
  go_wp2_with fail
  all_goals
   go_ret
   exact ⟨ret_b (by simp_all),rfl⟩
end Go.Proofs.YtmfpmandkhiknaaGreatDoor.flt
namespace Go.Proofs.YtmfpmandkhiknaaGreatDoor.flt
open Go Ieee Go.RowKit
def sg (r:Nat):Nat:=if r < 4503599627370496 then r else 4503599627370496 + r % 4503599627370496
def pl (r:Nat):Nat:=r / 4503599627370496 - 1
def mg (r:Nat):Nat:=sg r * 2 ^ pl r
def sgn (b:Nat):Bool:=decide (9223372036854775808 ≤ b)
def rung (b:Nat):Nat:=b % 9223372036854775808
def fin (b:Nat):Prop:=b < 18446744073709551616 ∧ rung b < 9218868437227405312
theorem e1:double.signWeight = 9223372036854775808:=by decide
theorem e2:double.binade = 4503599627370496:=by decide
theorem e3:double.infRung = 9218868437227405312:=by decide
theorem e4:double.leastPlace = -1074:=by decide
theorem e5:double.fractionBits = 52:=by decide
theorem sgn_read (b:Nat) (h:b < 18446744073709551616):(b / 9223372036854775808 % 2 == 1) = sgn b:=by
 unfold sgn
 rw [Bool.eq_iff_iff,beq_iff_eq,decide_eq_true_iff]
 omega
theorem read_fin (b:Nat) (h:fin b):double.read b = .number (sgn b) (sg (rung b)) (-1074 + (pl (rung b):Nat)):=by
 unfold Format.read
 simp only [e1,e2,e3,e4]
 rw [sgn_read b h.1]
 have h2:=h.2
 unfold rung at *
 unfold sg pl
 split
 ·rename_i h3;rw [Nat.div_eq_of_lt h3];rfl
 ·rfl
theorem sg_lt (r:Nat):sg r < 9007199254740992:=by unfold sg;split <;> omega
theorem sg_ge (r:Nat) (h:4503599627370496 ≤ r):4503599627370496 ≤ sg r:=by unfold sg;split <;> omega
theorem mg_succ (r:Nat):mg r < mg (r + 1):=by
 unfold mg sg pl
 by_cases h:r + 1 < 4503599627370496
 ·rw [if_pos h,if_pos (by omega),Nat.div_eq_of_lt h,Nat.div_eq_of_lt (by omega)]
  simp
 ·by_cases h2:r < 4503599627370496
  ·obtain rfl:r = 4503599627370495:=by omega
   decide
  ·rw [if_neg h,if_neg h2]
   by_cases h3:r % 4503599627370496 = 4503599627370495
   ·have a1:(r + 1) % 4503599627370496 = 0:=by omega
    have a2:(r + 1) / 4503599627370496 - 1 = r / 4503599627370496 - 1 + 1:=by omega
    rw [a1,a2,h3,Nat.pow_succ]
    have:0 < 2 ^ (r / 4503599627370496 - 1):=Nat.two_pow_pos _
    generalize 2 ^ (r / 4503599627370496 - 1) = k at *
    omega
   ·have a1:(r + 1) % 4503599627370496 = r % 4503599627370496 + 1:=by omega
    have a2:(r + 1) / 4503599627370496 = r / 4503599627370496:=by omega
    rw [a1,a2]
    have:0 < 2 ^ (r / 4503599627370496 - 1):=Nat.two_pow_pos _
    exact Nat.mul_lt_mul_of_pos_right (by omega) this
theorem mg_lt {r q:Nat} (h:r < q):mg r < mg q:=by
 obtain ⟨d,rfl⟩:∃ d,q = r + 1 + d:=⟨q - (r + 1),by omega⟩
 induction d with
 | zero=>exact mg_succ r
 | succ d ih=>exact Nat.lt_trans (ih (by omega)) (mg_succ _)
theorem mg_inj {r q:Nat} (h:mg r = mg q):r = q:=by
 rcases Nat.lt_trichotomy r q with h1 | h1 | h1
 ·have:=mg_lt h1;omega
 ·exact h1
 ·have:=mg_lt h1;omega
theorem mg_lt_iff (r q:Nat):mg r < mg q ↔ r < q:=by
 constructor
 ·intro h
  rcases Nat.lt_or_ge r q with h1 | h1
  ·exact h1
  ·rcases Nat.lt_or_eq_of_le h1 with h2 | h2
   ·have:=mg_lt h2;omega
   ·subst h2;omega
 ·exact mg_lt
theorem mg_zero:mg 0 = 0:=by decide
def val (b:Nat):Int:=if sgn b then -(mg (rung b):Int) else mg (rung b)
theorem signed_val (s:Bool) (m k:Nat):signed s m k = if s then -((m * 2 ^ k:Nat):Int) else ((m * 2 ^ k:Nat):Int):=by
 unfold signed;rw [Nat.shiftLeft_eq]
theorem cmp_scale (x y:Int) (k:Nat) (hk:0 < k):compare (x * k) (y * k) = compare x y:=by
 have hk':(0:Int) < k:=by omega
 have hlt:∀ a b:Int,a * k < b * k ↔ a < b:=fun a b=>Int.mul_lt_mul_right hk'
 have heq:∀ a b:Int,a * k = b * k ↔ a = b:=fun a b=>⟨fun h=>Int.eq_of_mul_eq_mul_right (by omega) h,fun h=>by rw [h]⟩
 simp only [compare,compareOfLessAndEq,hlt,heq]
theorem order_fin (a b:Nat) (ha:fin a) (hb:fin b):double.order a b = some (compare (val a) (val b)):=by
 unfold Format.order
 rw [read_fin a ha,read_fin b hb]
 simp only [Datum.order]
 congr 1
 rw [signed_val,signed_val]
 generalize hi:pl (rung a) = i
 generalize hj:pl (rung b) = j
 unfold val mg
 rw [hi,hj]
 have hm:min (-1074 + (i:Int)) (-1074 + (j:Int)) = -1074 + ((min i j:Nat):Int):=by omega
 rw [hm]
 have k1:(-1074 + (i:Int) - (-1074 + ((min i j:Nat):Int))).toNat = i - min i j:=by omega
 have k2:(-1074 + (j:Int) - (-1074 + ((min i j:Nat):Int))).toNat = j - min i j:=by omega
 rw [k1,k2]
 have p1:2 ^ i = 2 ^ (i - min i j) * 2 ^ (min i j):=by rw [← Nat.pow_add];congr 1;omega
 have p2:2 ^ j = 2 ^ (j - min i j) * 2 ^ (min i j):=by rw [← Nat.pow_add];congr 1;omega
 rw [p1,p2,← Nat.mul_assoc,← Nat.mul_assoc]
 have hp:0 < 2 ^ (min i j):=Nat.two_pow_pos _
 generalize 2 ^ (min i j) = u at *
 generalize sg (rung a) * 2 ^ (i - min i j) = x
 generalize sg (rung b) * 2 ^ (j - min i j) = y
 rw [← cmp_scale _ _ u hp]
 congr 1
 ·split <;> simp [Int.neg_mul]
 ·split <;> simp [Int.neg_mul]
def nr (M:Nat):Nat:=if M = 0 then 0 else min ((M.log2 - 52) * 4503599627370496 + Toward.even.cut false M (M.log2 - 52)) 9218868437227405312
def wd (s:Bool) (r:Nat):Nat:=if s then 9223372036854775808 + r else r
theorem cut_neg (s:Bool) (n d:Nat):Toward.even.cut s n d = Toward.even.cut false n d:=rfl
theorem nearest_unit (s:Bool) (M:Nat):double.nearest s M (-1074) = wd s (nr M):=by
 unfold Format.nearest nr wd
 simp only [e2,e3,e4,e5,Format.word,e1]
 by_cases h:M = 0
 ·simp [h]
 ·simp only [h,if_false]
  have hl:max (-1074 + (M.log2:Int) - ((52:Nat):Int)) (-1074) = -1074 + ((M.log2 - 52:Nat):Int):=by omega
  rw [hl]
  have k1:(-1074 - (-1074 + ((M.log2 - 52:Nat):Int))).toNat = 0:=by omega
  have k2:(-1074 + ((M.log2 - 52:Nat):Int) - -1074).toNat = M.log2 - 52:=by omega
  rw [k1,k2,Nat.shiftLeft_zero,cut_neg]
theorem cut_exact (s:Bool) (m d:Nat):Toward.even.cut s (m * 2 ^ d) d = m:=by
 by_cases hm:m = 0
 ·subst hm;simp [Toward.cut]
 ·have hlog:d ≤ (m * 2 ^ d).log2:=by
   rw [Nat.le_log2 (by have:=Nat.two_pow_pos d;exact Nat.mul_ne_zero hm (by omega))]
   exact Nat.le_mul_of_pos_left _ (by omega)
  unfold Toward.cut
  have hmin:min d ((m * 2 ^ d).log2 + 2) = d:=by omega
  simp only [hmin,Nat.one_shiftLeft]
  have hp:=Nat.two_pow_pos d
  rw [Nat.mul_div_cancel _ hp,Nat.mul_mod_left]
  have:¬ (2 ^ d = 0):=by omega
  simp [this]
theorem log_norm (m d:Nat) (h1:4503599627370496 ≤ m) (h2:m < 9007199254740992):(m * 2 ^ d).log2 = 52 + d:=by
 rw [Nat.log2_eq_iff (by have:=Nat.two_pow_pos d;exact Nat.mul_ne_zero (by omega) (by omega))]
 have hp:=Nat.two_pow_pos d
 constructor
 ·rw [Nat.pow_add];exact Nat.mul_le_mul_right _ h1
 ·rw [show 52 + d + 1 = 53 + d by omega,Nat.pow_add];exact Nat.mul_lt_mul_of_pos_right h2 hp
theorem nr_mg (r:Nat) (h:r < 9218868437227405312):nr (mg r) = r:=by
 by_cases h0:r < 4503599627370496
 ·have hm:mg r = r:=by unfold mg sg pl;rw [if_pos h0,Nat.div_eq_of_lt h0];simp
  rw [hm]
  unfold nr
  by_cases hz:r = 0
  ·simp [hz]
  ·rw [if_neg hz]
   have hl:r.log2 < 52:=(Nat.log2_lt hz).2 h0
   have hd:r.log2 - 52 = 0:=by omega
   rw [hd]
   have:=cut_exact false r 0
   rw [Nat.pow_zero,Nat.mul_one] at this
   rw [this]
   omega
 ·have g1:=sg_ge r (by omega)
  have g2:=sg_lt r
  have hl:=log_norm (sg r) (pl r) g1 g2
  unfold nr
  have hnz:mg r ≠ 0:=by unfold mg;have:=Nat.two_pow_pos (pl r);exact Nat.mul_ne_zero (by omega) (by omega)
  rw [if_neg hnz]
  unfold mg
  rw [hl,show 52 + pl r - 52 = pl r by omega,cut_exact]
  unfold sg pl
  rw [if_neg h0]
  omega
theorem rep (p:Nat):∀ m:Nat,m < 9007199254740992 → p ≤ 2045 → ∃ r,r < 9218868437227405312 ∧ mg r = m * 2 ^ p:=by
 induction p with
 | zero =>
  intro m hm _
  refine ⟨m,by omega,?_⟩
  unfold mg sg pl
  by_cases h:m < 4503599627370496
  ·rw [if_pos h,Nat.div_eq_of_lt h]
  ·rw [if_neg h,show m / 4503599627370496 - 1 = 0 by omega,show 4503599627370496 + m % 4503599627370496 = m by omega]
 | succ p ih =>
  intro m hm hp
  by_cases h:m < 4503599627370496
  ·obtain ⟨r,hr,e⟩:=ih (2 * m) (by omega) (by omega)
   exact ⟨r,hr,by rw [e,Nat.pow_succ,Nat.mul_comm 2 m,Nat.mul_assoc,Nat.mul_comm 2 (2 ^ p)]⟩
  ·refine ⟨(p + 2) * 4503599627370496 + (m - 4503599627370496),by omega,?_⟩
   unfold mg sg pl
   rw [if_neg (by omega),show ((p + 2) * 4503599627370496 + (m - 4503599627370496)) / 4503599627370496 - 1 = p + 1 by omega,
    show 4503599627370496 + ((p + 2) * 4503599627370496 + (m - 4503599627370496)) % 4503599627370496 = m by omega]
theorem nr_rep (m p:Nat) (hm:m < 9007199254740992) (hp:p ≤ 2045):nr (m * 2 ^ p) < 9218868437227405312 ∧ mg (nr (m * 2 ^ p)) = m * 2 ^ p:=by
 obtain ⟨r,hr,e⟩:=rep p m hm hp
 generalize m * 2 ^ p = M at *
 have h:=nr_mg r hr
 rw [e] at h
 rw [h]
 exact ⟨hr,e⟩
theorem log2_scale (m k:Nat) (hm:m ≠ 0):(m * 2 ^ k).log2 = m.log2 + k:=by
 have hp:=Nat.two_pow_pos k
 rw [Nat.log2_eq_iff (Nat.mul_ne_zero hm (by omega))]
 have h:=(Nat.log2_eq_iff hm).1 rfl
 constructor
 ·rw [Nat.pow_add];exact Nat.mul_le_mul_right _ h.1
 ·rw [show m.log2 + k + 1 = m.log2 + 1 + k by omega,Nat.pow_add];exact Nat.mul_lt_mul_of_pos_right h.2 hp
theorem cut_scale (s:Bool) (m k d:Nat) (hm:m ≠ 0):Toward.even.cut s (m * 2 ^ k) (d + k) = Toward.even.cut s m d:=by
 unfold Toward.cut
 have hmin:min (d + k) ((m * 2 ^ k).log2 + 2) = min d (m.log2 + 2) + k:=by rw [log2_scale m k hm];omega
 simp only [hmin,Nat.one_shiftLeft,Nat.pow_add]
 generalize 2 ^ (min d (m.log2 + 2)) = g
 have hp:=Nat.two_pow_pos k
 generalize 2 ^ k = u at *
 rw [Nat.mul_div_mul_right _ _ hp,Nat.mul_mod_mul_right]
 have h1:(g * u < 2 * (m % g * u)) = (g < 2 * (m % g)):=by
  rw [← Nat.mul_assoc];exact propext (Nat.mul_lt_mul_right hp)
 have h2:(g * u == 2 * (m % g * u)) = (g == 2 * (m % g)):=by
  rw [← Nat.mul_assoc,Bool.eq_iff_iff,beq_iff_eq,beq_iff_eq]
  exact ⟨fun h=>Nat.eq_of_mul_eq_mul_right hp h,fun h=>congrArg (· * u) h⟩
 simp only [h1,h2]
theorem cut_zero (s:Bool) (m:Nat):Toward.even.cut s m 0 = m:=by
 have:=cut_exact s m 0
 rwa [Nat.pow_zero,Nat.mul_one] at this
theorem nearest_scale (s:Bool) (m k:Nat) (p:Int):double.nearest s (m * 2 ^ k) p = double.nearest s m (p + k):=by
 have hp:=Nat.two_pow_pos k
 by_cases hm:m = 0
 ·subst hm;simp [Format.nearest]
 ·unfold Format.nearest
  rw [if_neg (Nat.mul_ne_zero hm (by omega)),if_neg hm]
  simp only [e2,e3,e4,e5]
  rw [log2_scale m k hm]
  have hl:max (p + ((m.log2 + k:Nat):Int) - ((52:Nat):Int)) (-1074) = max (p + (k:Int) + (m.log2:Int) - ((52:Nat):Int)) (-1074):=by omega
  rw [hl]
  generalize max (p + (k:Int) + (m.log2:Int) - ((52:Nat):Int)) (-1074) = L
  have key:Toward.even.cut s ((m * 2 ^ k) <<< (p - L).toNat) (L - p).toNat = Toward.even.cut s (m <<< (p + (k:Int) - L).toNat) (L - (p + (k:Int))).toNat:=by
   rw [Nat.shiftLeft_eq,Nat.shiftLeft_eq]
   by_cases c1:L ≤ p
   ·have a1:(L - p).toNat = 0:=by omega
    have a2:(L - (p + (k:Int))).toNat = 0:=by omega
    have a3:(p + (k:Int) - L).toNat = k + (p - L).toNat:=by omega
    rw [a1,a2,a3,Nat.pow_add,Nat.mul_assoc]
   ·by_cases c2:L ≤ p + k
    ·have a1:(p - L).toNat = 0:=by omega
     have a2:(L - (p + (k:Int))).toNat = 0:=by omega
     obtain ⟨j,hj⟩:∃ j,(p + (k:Int) - L).toNat = j:=⟨_,rfl⟩
     obtain ⟨i,hi⟩:∃ i,(L - p).toNat = i:=⟨_,rfl⟩
     have hk:k = j + i:=by omega
     rw [a1,a2,hj,hi,hk,Nat.pow_zero,Nat.mul_one,Nat.pow_add,← Nat.mul_assoc,cut_exact,cut_zero]
    ·have a1:(p - L).toNat = 0:=by omega
     have a2:(p + (k:Int) - L).toNat = 0:=by omega
     have a3:(L - p).toNat = (L - (p + (k:Int))).toNat + k:=by omega
     rw [a1,a2,a3,Nat.pow_zero,Nat.mul_one,Nat.mul_one,cut_scale _ _ _ _ hm]
  rw [key]
theorem nearest_up (s:Bool) (m k:Nat):double.nearest s m (-1074 + (k:Int)) = wd s (nr (m * 2 ^ k)):=by
 rw [← nearest_scale,nearest_unit]
theorem fin_wd (s:Bool) (r:Nat) (h:r < 9218868437227405312):fin (wd s r):=by
 unfold fin wd rung
 split <;> omega
theorem rung_wd (s:Bool) (r:Nat) (h:r ≤ 9218868437227405312):rung (wd s r) = r:=by
 unfold wd rung
 split <;> omega
theorem sgn_wd (s:Bool) (r:Nat) (h:r ≤ 9218868437227405312):sgn (wd s r) = s:=by
 unfold wd sgn
 cases s <;> simp <;> omega
theorem val_wd (s:Bool) (r:Nat) (h:r < 9218868437227405312):val (wd s r) = if s then -(mg r:Int) else mg r:=by
 unfold val
 rw [sgn_wd s r (by omega),rung_wd s r (by omega)]
theorem wd_self (b:Nat) (h:b < 18446744073709551616):wd (sgn b) (rung b) = b:=by
 unfold wd sgn rung
 by_cases h1:9223372036854775808 ≤ b <;> simp [h1] <;> omega
theorem nr_le (M:Nat):nr M ≤ 9218868437227405312:=by
 unfold nr;split <;> omega
def rn (z:Int) (s0:Bool):Nat:=wd (if z = 0 then s0 else decide (z < 0)) (nr z.natAbs)
theorem sum_num (s t:Bool) (m n i j:Nat):((Datum.number s m (-1074 + (i:Int))).sum (.number t n (-1074 + (j:Int)))).map double.write =
  some (rn ((if s then -((m * 2 ^ i:Nat):Int) else ((m * 2 ^ i:Nat):Int)) + (if t then -((n * 2 ^ j:Nat):Int) else ((n * 2 ^ j:Nat):Int))) (s && t)):=by
 have hm:min (-1074 + (i:Int)) (-1074 + (j:Int)) = -1074 + ((min i j:Nat):Int):=by omega
 have k1:(-1074 + (i:Int) - (-1074 + ((min i j:Nat):Int))).toNat = i - min i j:=by omega
 have k2:(-1074 + (j:Int) - (-1074 + ((min i j:Nat):Int))).toNat = j - min i j:=by omega
 have p1:2 ^ i = 2 ^ (i - min i j) * 2 ^ (min i j):=by rw [← Nat.pow_add];congr 1;omega
 have p2:2 ^ j = 2 ^ (j - min i j) * 2 ^ (min i j):=by rw [← Nat.pow_add];congr 1;omega
 simp only [Datum.sum,Option.map_some,hm,k1,k2,Format.write,nearest_up,signed_val]
 congr 1
 rw [p1,p2,← Nat.mul_assoc,← Nat.mul_assoc]
 have hp:0 < 2 ^ (min i j):=Nat.two_pow_pos _
 generalize 2 ^ (min i j) = u at *
 generalize m * 2 ^ (i - min i j) = x
 generalize n * 2 ^ (j - min i j) = y
 have hx:∀ (s:Bool) (x:Nat),(if s then -((x * u:Nat):Int) else ((x * u:Nat):Int)) = (if s then -(x:Int) else (x:Int)) * (u:Int):=by
  intro s x;cases s <;> simp [Int.neg_mul]
 rw [hx,hx,← Int.add_mul]
 generalize (if s then -(x:Int) else (x:Int)) + (if t then -(y:Int) else (y:Int)) = z
 unfold rn
 have hu:(0:Int) < u:=by omega
 have z1:(z * u = 0) = (z = 0):=by
  apply propext
  constructor
  ·intro h;rcases Int.mul_eq_zero.1 h with h | h <;> omega
  ·intro h;rw [h];simp
 have z2:(z * u < 0) = (z < 0):=by
  apply propext
  constructor
  ·intro h
   rcases Int.lt_or_le z 0 with h1 | h1
   ·exact h1
   ·have:=Int.mul_nonneg h1 (Int.le_of_lt hu);omega
  ·intro h;exact Int.mul_neg_of_neg_of_pos h hu
 simp only [z1,z2,Int.natAbs_mul,Int.natAbs_natCast]
theorem val_parts (a:Nat):val a = (if sgn a then -((sg (rung a) * 2 ^ pl (rung a):Nat):Int) else ((sg (rung a) * 2 ^ pl (rung a):Nat):Int)):=rfl
theorem add_fin (a b:Nat) (ha:fin a) (hb:fin b):fop .add a b = some (rn (val a + val b) (sgn a && sgn b)):=by
 show ((double.read a).sum (double.read b)).map double.write = _
 rw [read_fin a ha,read_fin b hb,sum_num,← val_parts,← val_parts]
theorem sub_fin (a b:Nat) (ha:fin a) (hb:fin b):fop .sub a b = some (rn (val a - val b) (sgn a && !sgn b)):=by
 show ((double.read a).sum (double.read b).opposite).map double.write = _
 rw [read_fin a ha,read_fin b hb]
 show ((Datum.number (sgn a) (sg (rung a)) (-1074 + (pl (rung a):Nat))).sum (Datum.number (!sgn b) (sg (rung b)) (-1074 + (pl (rung b):Nat)))).map double.write = _
 rw [sum_num,val_parts,val_parts]
 congr 2
 cases sgn b <;> simp <;> omega
def fl (n:Nat):Nat:=double.nearest false n 0
theorem floatOfInt_nat (n:Nat):floatOfInt .f64 (n:Int) = fl n:=by
 show double.nearest (decide ((n:Int) < 0)) (n:Int).natAbs 0 = _
 rw [Int.natAbs_natCast,decide_eq_false (by omega)]
 rfl
theorem floatOfInt_neg (n:Nat) (h:0 < n):floatOfInt .f64 (-(n:Int)) = double.nearest true n 0:=by
 show double.nearest (decide (-(n:Int) < 0)) (-(n:Int)).natAbs 0 = _
 rw [Int.natAbs_neg,Int.natAbs_natCast,decide_eq_true (by omega)]
@[irreducible] def PP:Nat:=1074
theorem hPP:PP = 1074:=by unfold PP;rfl
theorem near_int (s:Bool) (n:Nat):double.nearest s n 0 = wd s (nr (n * 2 ^ PP)):=by
 have:=nearest_up s n PP
 rwa [show (-1074:Int) + (PP:Int) = 0 by rw [hPP];rfl] at this
theorem rep_int (n:Nat) (h:n ≤ 9007199254740992):nr (n * 2 ^ PP) < 9218868437227405312 ∧ mg (nr (n * 2 ^ PP)) = n * 2 ^ PP:=by
 rcases Nat.lt_or_eq_of_le h with h1 | h1
 ·exact nr_rep n PP h1 (by rw [hPP];omega)
 ·have:=nr_rep 4503599627370496 (PP + 1) (by omega) (by rw [hPP];omega)
  have e:4503599627370496 * 2 ^ (PP + 1) = n * 2 ^ PP:=by rw [h1,Nat.pow_succ];omega
  rw [e] at this
  exact this
theorem fin_int (s:Bool) (n:Nat) (h:n ≤ 9007199254740992):fin (double.nearest s n 0):=by
 rw [near_int];exact fin_wd _ _ (rep_int n h).1
theorem val_int (s:Bool) (n:Nat) (h:n ≤ 9007199254740992):val (double.nearest s n 0) = if s then -((n * 2 ^ PP:Nat):Int) else ((n * 2 ^ PP:Nat):Int):=by
 rw [near_int,val_wd _ _ (rep_int n h).1,(rep_int n h).2]
theorem read_int (s:Bool) (n:Nat) (h:n < 9007199254740992):∃ a:Nat,double.read (double.nearest s n 0) = .number s (n * 2 ^ a) (-(a:Int)):=by
 have hr:=rep_int n (by omega)
 have hf:=fin_int s n (by omega)
 rw [read_fin _ hf,near_int,sgn_wd _ _ (nr_le _),rung_wd _ _ (nr_le _)]
 obtain ⟨r,hreq⟩:∃ r,nr (n * 2 ^ PP) = r:=⟨_,rfl⟩
 rw [hreq] at hr ⊢
 have hm:sg r * 2 ^ pl r = n * 2 ^ PP:=hr.2
 have hle:pl r ≤ PP:=by
  by_cases h0:r < 4503599627370496
  ·unfold pl;rw [Nat.div_eq_of_lt h0];omega
  ·have g1:=sg_ge r (by omega)
   have h3:4503599627370496 * 2 ^ pl r < 9007199254740992 * 2 ^ PP:=Nat.lt_of_le_of_lt (Nat.mul_le_mul_right _ g1) (by rw [hm];exact Nat.mul_lt_mul_of_pos_right h (Nat.two_pow_pos _))
   have h4:2 ^ pl r < 2 ^ (PP + 1):=by rw [Nat.pow_succ];omega
   have:=(Nat.pow_lt_pow_iff_right (by omega:1 < 2)).1 h4
   omega
 refine ⟨PP - pl r,?_⟩
 have hp:=Nat.two_pow_pos (pl r)
 have e:sg r = n * 2 ^ (PP - pl r):=by
  have:n * 2 ^ PP = n * 2 ^ (PP - pl r) * 2 ^ pl r:=by rw [Nat.mul_assoc,← Nat.pow_add,Nat.sub_add_cancel hle]
  rw [this] at hm
  exact Nat.eq_of_mul_eq_mul_right hp hm
 have e' : -1074 + (pl r:Int) = -((PP - pl r:Nat):Int):=by have:=hPP;omega
 rw [e,e']
theorem mul_int (n k:Nat) (hn:n < 9007199254740992) (hk:k < 9007199254740992):fop .mul (fl n) (fl k) = some (fl (n * k)):=by
 obtain ⟨a,ha⟩:=read_int false n hn
 obtain ⟨b,hb⟩:=read_int false k hk
 show ((double.read (double.nearest false n 0)).product (double.read (double.nearest false k 0))).map double.write = _
 rw [ha,hb]
 simp only [Datum.product,Option.map_some,Format.write,Bool.xor_false]
 have h1:n * 2 ^ a * (k * 2 ^ b) = n * k * 2 ^ (a + b):=by rw [Nat.pow_add];ac_rfl
 rw [h1,nearest_scale,show -(a:Int) + -(b:Int) + ((a + b:Nat):Int) = 0 by omega]
 rfl
theorem val_fl (n:Nat) (hn:n ≤ 9007199254740992):val (fl n) = ((n * 2 ^ PP:Nat):Int):=by unfold fl;rw [val_int false n hn];rfl
theorem fin_fl (n:Nat) (hn:n ≤ 9007199254740992):fin (fl n):=fin_int false n hn
theorem sgn_fl (n:Nat):sgn (fl n) = false:=by unfold fl;rw [near_int,sgn_wd _ _ (nr_le _)]
theorem add_int (n k:Nat) (hn:n < 9007199254740992) (hk:k < 9007199254740992):fop .add (fl n) (fl k) = some (fl (n + k)):=by
 rw [add_fin _ _ (fin_fl n (by omega)) (fin_fl k (by omega)),val_fl n (by omega),val_fl k (by omega),sgn_fl,← Int.natCast_add,← Nat.add_mul]
 have h1:(fl (n + k)) = wd false (nr ((n + k) * 2 ^ PP)):=near_int false (n + k)
 rw [h1]
 unfold rn
 rw [Int.natAbs_natCast]
 have h2:(if (((n + k) * 2 ^ PP:Nat):Int) = 0 then (false && sgn (fl k)) else decide ((((n + k) * 2 ^ PP:Nat):Int) < 0)) = false:=by
  split
  ·rfl
  ·exact decide_eq_false (by omega)
 rw [h2]
theorem cut_down (s:Bool) (n d:Nat):Toward.zero.cut s n d = n / 2 ^ d:=by
 unfold Toward.cut
 simp only [Nat.one_shiftLeft,Bool.toNat_false,Nat.add_zero]
 by_cases h:d ≤ n.log2 + 2
 ·rw [Nat.min_eq_left h]
 ·rw [Nat.min_eq_right (by omega)]
  have h1:n < 2 ^ (n.log2 + 2):=by
   by_cases hn:n = 0
   ·subst hn;exact Nat.two_pow_pos _
   ·have:=((Nat.log2_eq_iff hn).1 rfl).2
    exact Nat.lt_trans this (Nat.pow_lt_pow_right (by omega) (by omega))
  have h2:n < 2 ^ d:=Nat.lt_of_lt_of_le h1 (Nat.pow_le_pow_right (by omega) (by omega))
  rw [Nat.div_eq_of_lt h1,Nat.div_eq_of_lt h2]
def tr (a:Nat):Nat:=mg (rung a) / 2 ^ PP
def trunc (a:Nat):Nat:=double.write ((double.read a).integral .zero)
theorem cut_fin (s:Bool) (m p:Nat):Toward.zero.cut s (m <<< (-1074 + (p:Int)).toNat) (-(-1074 + (p:Int))).toNat = m * 2 ^ p / 2 ^ PP:=by
 rw [cut_down,Nat.shiftLeft_eq]
 have h:=hPP
 by_cases hp:PP ≤ p
 ·have a1:(-(-1074 + (p:Int))).toNat = 0:=by omega
  have a2:(-1074 + (p:Int)).toNat = p - PP:=by omega
  rw [a1,a2,Nat.pow_zero,Nat.div_one]
  have:2 ^ p = 2 ^ (p - PP) * 2 ^ PP:=by rw [← Nat.pow_add,Nat.sub_add_cancel hp]
  rw [this,← Nat.mul_assoc,Nat.mul_div_cancel _ (Nat.two_pow_pos _)]
 ·have a1:(-1074 + (p:Int)).toNat = 0:=by omega
  have a2:(-(-1074 + (p:Int))).toNat = PP - p:=by omega
  rw [a1,a2,Nat.pow_zero,Nat.mul_one]
  have:2 ^ PP = 2 ^ (PP - p) * 2 ^ p:=by rw [← Nat.pow_add,Nat.sub_add_cancel (by omega)]
  rw [this,Nat.mul_div_mul_right _ _ (Nat.two_pow_pos _)]
theorem trunc_fin (a:Nat) (h:fin a):trunc a = double.nearest (sgn a) (tr a) 0:=by
 unfold trunc
 rw [read_fin a h]
 simp only [Datum.integral,Format.write]
 rw [cut_fin]
 rfl
theorem toInt_fin (a:Nat) (h:fin a):(double.read a).toInt .zero = some (if sgn a then -(tr a:Int) else (tr a:Int)):=by
 rw [read_fin a h]
 unfold Datum.toInt
 simp only [Datum.integral]
 rw [cut_fin,signed_val,Nat.pow_zero,Nat.mul_one]
 rfl
theorem fin_cases (b:Nat) (h:b < 18446744073709551616):fin b ∨ (rung b = 9218868437227405312 ∧ double.read b = .infinity (sgn b)) ∨ (9218868437227405312 < rung b ∧ nanB b = true):=by
 unfold fin
 by_cases h1:rung b < 9218868437227405312
 ·exact .inl ⟨h,h1⟩
 ·right
  unfold rung at *
  by_cases h2:b % 9223372036854775808 = 9218868437227405312
  ·left
   refine ⟨h2,?_⟩
   unfold Format.read
   simp only [e1,e2,e3,e4]
   rw [if_neg (by omega),if_neg (by omega),if_pos h2,sgn_read b h]
  ·right
   refine ⟨by omega,?_⟩
   unfold nanB Format.read
   simp only [e1,e2,e3,e4]
   rw [if_neg (by omega),if_neg (by omega),if_neg h2]
   rfl
def geB (a c:Nat):Bool:=double.order a c == some .gt || double.order a c == some .eq
def leB (a c:Nat):Bool:=double.order a c == some .lt || double.order a c == some .eq
def eqB (a c:Nat):Bool:=double.order a c == some .eq
theorem cmp_ge (x y:Int):(compare x y = .gt ∨ compare x y = .eq) ↔ y ≤ x:=by
 simp only [compare,compareOfLessAndEq]
 split
 ·simp;omega
 ·split
  ·simp;omega
  ·simp;omega
theorem cmp_le (x y:Int):(compare x y = .lt ∨ compare x y = .eq) ↔ x ≤ y:=by
 simp only [compare,compareOfLessAndEq]
 split
 ·simp;omega
 ·split
  ·simp;omega
  ·simp;omega
theorem cmp_eq (x y:Int):(compare x y = .eq) ↔ x = y:=by
 simp only [compare,compareOfLessAndEq]
 split
 ·simp;omega
 ·split
  ·simp;omega
  ·simp;omega
theorem geB_fin (a c:Nat) (ha:fin a) (hc:fin c):geB a c = decide (val c ≤ val a):=by
 unfold geB
 rw [order_fin a c ha hc,Bool.eq_iff_iff,decide_eq_true_iff,← cmp_ge]
 simp
theorem leB_fin (a c:Nat) (ha:fin a) (hc:fin c):leB a c = decide (val a ≤ val c):=by
 unfold leB
 rw [order_fin a c ha hc,Bool.eq_iff_iff,decide_eq_true_iff,← cmp_le]
 simp
theorem eqB_fin (a c:Nat) (ha:fin a) (hc:fin c):eqB a c = decide (val a = val c):=by
 unfold eqB
 rw [order_fin a c ha hc,Bool.eq_iff_iff,decide_eq_true_iff,← cmp_eq]
 simp
abbrev top:Nat:=4845873199050653696
abbrev bot:Nat:=14069245235905429504
theorem top_eq:top = double.nearest false 9007199254740992 0:=by decide +kernel
theorem bot_eq:bot = double.nearest true 9007199254740992 0:=by decide +kernel
theorem fin_top:fin top:=by rw [top_eq];exact fin_int _ _ (by omega)
theorem fin_bot:fin bot:=by rw [bot_eq];exact fin_int _ _ (by omega)
theorem val_top:val top = ((9007199254740992 * 2 ^ PP:Nat):Int):=by rw [top_eq,val_int _ _ (by omega)];rfl
theorem val_bot:val bot = -((9007199254740992 * 2 ^ PP:Nat):Int):=by rw [bot_eq,val_int _ _ (by omega)];rfl
def inW (a:Nat):Bool:=geB a bot && leB a top
theorem inW_iff (a:Nat) (h:a < 18446744073709551616):inW a = true ↔ fin a ∧ mg (rung a) ≤ 9007199254740992 * 2 ^ PP:=by
 rcases fin_cases a h with hf | ⟨h1,h2⟩ | ⟨h1,h2⟩
 ·unfold inW
  rw [geB_fin a bot hf fin_bot,leB_fin a top hf fin_top,val_top,val_bot,Bool.and_eq_true,decide_eq_true_iff,decide_eq_true_iff]
  unfold val
  generalize 9007199254740992 * 2 ^ PP = T
  constructor
  ·intro hh
   refine ⟨hf,?_⟩
   split at hh <;> omega
  ·intro hh
   split <;> omega
 ·constructor
  ·intro hh
   exfalso
   have r1:=read_fin bot fin_bot
   have r2:=read_fin top fin_top
   have o1:double.order a bot = some (if sgn a then .lt else .gt):=by unfold Format.order;rw [h2,r1];rfl
   have o2:double.order a top = some (if sgn a then .lt else .gt):=by unfold Format.order;rw [h2,r2];rfl
   unfold inW geB leB at hh
   rw [o1,o2] at hh
   cases hs:sgn a <;> rw [hs] at hh <;> simp at hh
  ·intro hh;have:=hh.1.2;omega
 ·constructor
  ·intro hh
   exfalso
   unfold nanB at h2
   unfold inW geB leB Format.order at hh
   cases hr:double.read a <;> rw [hr] at h2 hh <;> simp [Datum.order,Datum.isNaN] at h2 hh
  ·intro hh;have:=hh.1.2;omega
theorem tr_le (a:Nat) (h:a < 18446744073709551616) (hw:inW a = true):tr a ≤ 9007199254740992:=by
 have:=((inW_iff a h).1 hw).2
 unfold tr
 exact Nat.le_of_lt_succ (Nat.div_lt_of_lt_mul (by rw [Nat.mul_comm];have:=Nat.two_pow_pos PP;omega))
def trI (a:Nat):Int:=if sgn a then -(tr a:Int) else (tr a:Int)
def isW (a:Nat):Bool:=inW a && eqB a (trunc a)
theorem toVal (a:Nat) (h:a < 18446744073709551616) (hw:inW a = true):floatToIntVal .f64 a .i64 = some (trI a):=by
 have hl:=tr_le a h hw
 have hf:=((inW_iff a h).1 hw).1
 have ht:(FloatKind.decode .f64 a).toInt .zero = some (trI a):=toInt_fin a hf
 unfold floatToIntVal
 rw [ht]
 have hb:IntKind.i64.min ≤ trI a ∧ trI a ≤ IntKind.i64.max:=by
  have m1:IntKind.i64.min = -9223372036854775808:=by decide
  have m2:IntKind.i64.max = 9223372036854775807:=by decide
  rw [m1,m2]
  unfold trI
  split <;> omega
 simp only [hb,and_self,if_true]
theorem fin_trunc (a:Nat) (h:a < 18446744073709551616) (hw:inW a = true):fin (trunc a) ∧ val (trunc a) = (if sgn a then -((tr a * 2 ^ PP:Nat):Int) else ((tr a * 2 ^ PP:Nat):Int)):=by
 have hl:=tr_le a h hw
 have hf:=((inW_iff a h).1 hw).1
 rw [trunc_fin a hf]
 exact ⟨fin_int _ _ hl,val_int _ _ hl⟩
theorem foi_pos (n:Nat) (hl:n ≤ 9007199254740992):fin (floatOfInt .f64 (n:Int)) ∧ val (floatOfInt .f64 (n:Int)) = ((n * 2 ^ PP:Nat):Int):=by
 rw [floatOfInt_nat]
 exact ⟨fin_fl _ hl,val_fl _ hl⟩
theorem foi_negA (n:Nat) (hl:n ≤ 9007199254740992) (h0:¬ n = 0):fin (floatOfInt .f64 (-(n:Int))) ∧ val (floatOfInt .f64 (-(n:Int))) = -((n * 2 ^ PP:Nat):Int):=by
 have hp:0 < n:=Nat.pos_of_ne_zero h0
 rw [floatOfInt_neg _ hp]
 exact ⟨fin_int _ _ hl,(val_int true n hl).trans (if_pos rfl)⟩
theorem foi_negB (n:Nat) (hl:n ≤ 9007199254740992) (h0:n = 0):fin (floatOfInt .f64 (-(n:Int))) ∧ val (floatOfInt .f64 (-(n:Int))) = -((n * 2 ^ PP:Nat):Int):=by
 have h:=foi_pos n hl
 have e2:((n * 2 ^ PP:Nat):Int) = 0:=by rw [h0,Nat.zero_mul];rfl
 have e:(-(n:Int)) = (n:Int):=by clear h e2;omega
 rw [e]
 rw [e2] at h ⊢
 rw [Int.neg_zero]
 exact h
theorem foi_neg (n:Nat) (hl:n ≤ 9007199254740992):fin (floatOfInt .f64 (-(n:Int))) ∧ val (floatOfInt .f64 (-(n:Int))) = -((n * 2 ^ PP:Nat):Int):=by
 by_cases h0:n = 0
 ·exact foi_negB n hl h0
 ·exact foi_negA n hl h0
theorem fin_trI (a:Nat) (h:a < 18446744073709551616) (hw:inW a = true):fin (floatOfInt .f64 (trI a)) ∧ val (floatOfInt .f64 (trI a)) = (if sgn a then -((tr a * 2 ^ PP:Nat):Int) else ((tr a * 2 ^ PP:Nat):Int)):=by
 have hl:=tr_le a h hw
 have e:trI a = if sgn a then -(tr a:Int) else (tr a:Int):=rfl
 rw [e]
 generalize tr a = n at *
 cases hs:sgn a
 ·rw [if_neg Bool.false_ne_true,if_neg Bool.false_ne_true]
  exact foi_pos n hl
 ·rw [if_pos rfl,if_pos rfl]
  exact foi_neg n hl
theorem whole_same (a:Nat) (h:a < 18446744073709551616) (hw:inW a = true):eqB a (floatOfInt .f64 (trI a)) = eqB a (trunc a):=by
 have hf:=((inW_iff a h).1 hw).1
 rw [eqB_fin a _ hf (fin_trI a h hw).1,eqB_fin a _ hf (fin_trunc a h hw).1,(fin_trI a h hw).2,(fin_trunc a h hw).2]
end Go.Proofs.YtmfpmandkhiknaaGreatDoor.flt
namespace Go.Proofs.YtmfpmandkhiknaaGreatDoor.flt
open Go.RowKit Ieee
set_option maxRecDepth 100000
theorem trunc_ext (b:Nat) (h:nanB b = false):Extern.MathFloor.toIntegral "math.archTrunc" .zero #[.float .f64 b] = pure (.float .f64 (trunc b)):=by
 have h1:Extern.MathFloor.toIntegral "math.archTrunc" .zero #[.float .f64 b] = (match double.read b with
  | .nan s t=>(if double.quiet t = t then pure (Value.float .f64 b) else (choose (.extern "math.Floor,Ceil,Trunc,RoundToEven.signallingNaN kept" 2) >>= fun kept=>pure (.float .f64 (if kept == 1 then b else double.write (.nan s (double.quiet t))))))
  | d=>pure (.float .f64 (double.write (d.integral .zero)))):=rfl
 rw [h1]
 unfold trunc
 unfold nanB at h
 cases hd:double.read b with
 | number s m i=>rfl
 | infinity s=>rfl
 | nan s t=>rw [hd] at h;cases h
theorem run_trunc (b:Nat) (h:nanB b = false) (w:World):(callFunc 202 #[.float .f64 b]).run Tryz.prog w = .ok (.value (.float .f64 (trunc b))) w:=by
 rw [run_callFunc_extern Tryz.func202 (by kernel_rfl) (by kernel_rfl) (by kernel_rfl) (e:=Extern.MathFloor.toIntegral "math.archTrunc" .zero) (by kernel_rfl)]
 rw [trunc_ext b h]
 rfl
theorem Trunc_any (a:Nat) (w:World) (h:nanB a = false):Calls Tryz.prog 187 #[fv a] w fun e w'=>e = .returned (fv (trunc a)) ∧ w = w':=by
 have ht:=fun W=>run_trunc a h W
 go_enter Tryz.func187,Tryz.ntmps187
 go_wp2_with fail
 go_ret
 exact ⟨rfl,rfl⟩
theorem inW_nan (a:Nat) (h:inW a = true):nanB a = false:=by
 unfold inW geB leB Format.order at h
 unfold nanB
 cases hr:double.read a <;> rw [hr] at h <;> simp_all [Datum.order,Datum.isNaN]
theorem geR {a:Nat} {c:Nat} {b:Bool} (h:geB a c = b):(FloatKind.f64.format.order a c == some Ordering.gt || FloatKind.f64.format.order a c == some Ordering.eq) = b:=h
theorem leR {a:Nat} {c:Nat} {b:Bool} (h:leB a c = b):(FloatKind.f64.format.order a c == some Ordering.lt || FloatKind.f64.format.order a c == some Ordering.eq) = b:=h
theorem eqR {a:Nat} {c:Nat} {b:Bool} (h:eqB a c = b):(FloatKind.f64.format.order a c == some Ordering.eq) = b:=h
theorem neR {a:Nat} {c:Nat} {b:Bool} (h:eqB a c = b):(FloatKind.f64.format.order a c != some Ordering.eq) = !b:=by
 have h':(FloatKind.f64.format.order a c == some Ordering.eq) = b:=h
 rw [bne,h']
theorem gtR {a:Nat} {c:Nat} {b:Bool} (h:(double.order a c == some Ordering.gt) = b):(FloatKind.f64.format.order a c == some Ordering.gt) = b:=h
theorem ltR {a:Nat} {c:Nat} {b:Bool} (h:(double.order a c == some Ordering.lt) = b):(FloatKind.f64.format.order a c == some Ordering.lt) = b:=h
theorem conv_fi (a:Nat) (h:a < 18446744073709551616) (hw:inW a = true) (w:World):(convert 45 3 (.float .f64 a)).run Tryz.prog w = .ok (.int .i64 (trI a)) w:=
 run_convert_float_int w _ _ .f64 .i64 a (trI a) (by kernel_rfl) (by kernel_rfl) (toVal a h hw)
theorem conv_if (n:Int) (w:World):(convert 3 45 (.int .i64 n)).run Tryz.prog w = .ok (.float .f64 (floatOfInt .f64 n)) w:=
 run_convert_int_float w _ _ .i64 .f64 n (by kernel_rfl) (by kernel_rfl)
def wholeN (a:Nat):Int:=if isW a then trI a else 0
theorem Whole_any (a:Nat) (w:World) (h:a < 18446744073709551616):Calls Tryz.prog 155 #[fv a] w fun e w'=>e = .returned (.tuple #[.int .i64 (wholeN a),.bool (isW a)]) ∧ w = w':=by
 cases hw:inW a
 ·have e1:isW a = false:=by unfold isW;rw [hw];rfl
  have e2:wholeN a = 0:=by unfold wholeN;rw [e1];rfl
  rw [e1,e2]
  unfold inW at hw
  clear e1 e2 h
  cases h1:geB a bot
  ·clear hw
   replace h1:=geR h1
   go_enter Tryz.func155,Tryz.ntmps155
   go_wp2_with fail
   go_ret2
   exact ⟨rfl,rfl⟩
  ·rw [h1,Bool.true_and] at hw
   replace h1:=geR h1
   replace hw:=leR hw
   go_enter Tryz.func155,Tryz.ntmps155
   go_wp2_with fail
   go_ret2
   exact ⟨rfl,rfl⟩
 ·have hn:=inW_nan a hw
  have HT:=Lib.hid (fun W=>Trunc_any a W hn)
  have HC:=fun W=>conv_fi a h hw W
  have e1:isW a = eqB a (trunc a):=by unfold isW;rw [hw];rfl
  unfold wholeN
  rw [e1]
  have h1:geB a bot = true:=by unfold inW at hw;exact (Bool.and_eq_true_iff.1 hw).1
  have h2:leB a top = true:=by unfold inW at hw;exact (Bool.and_eq_true_iff.1 hw).2
  replace h1:=geR h1
  replace h2:=leR h2
  clear e1 hn h hw
  generalize trI a = n at *
  generalize trunc a = u at *
  cases he:eqB a u
  all_goals
   have hne:=neR he
   simp only [Bool.not_false,Bool.not_true] at hne
   replace he:=eqR he
   go_enter Tryz.func155,Tryz.ntmps155
   go_wp2_with (go_at_call 187;refine (HT.out _).mono ?_;rintro e w1 ⟨rfl,rfl⟩)
   go_ret2
   exact ⟨rfl,rfl⟩
theorem rWhole_any (a:Nat) (w:World) (h:a < 18446744073709551616):Calls Tryz.prog 217 #[fv a] w fun e w'=>e = .returned (.tuple #[.int .i64 (wholeN a),.bool (isW a)]) ∧ w = w':=by
 cases hw:inW a
 ·have e1:isW a = false:=by unfold isW;rw [hw];rfl
  have e2:wholeN a = 0:=by unfold wholeN;rw [e1];rfl
  rw [e1,e2]
  unfold inW at hw
  clear e1 e2 h
  cases h1:geB a bot
  ·clear hw
   replace h1:=geR h1
   go_enter Tryz.func217,Tryz.ntmps217
   go_wp2_with fail
   go_ret2
   exact ⟨rfl,rfl⟩
  ·rw [h1,Bool.true_and] at hw
   replace h1:=geR h1
   replace hw:=leR hw
   go_enter Tryz.func217,Tryz.ntmps217
   go_wp2_with fail
   go_ret2
   exact ⟨rfl,rfl⟩
 ·have HC:=fun W=>conv_fi a h hw W
  have HD:=fun W=>conv_if (trI a) W
  have e1:isW a = eqB a (floatOfInt .f64 (trI a)):=by unfold isW;rw [hw,whole_same a h hw];rfl
  unfold wholeN
  rw [e1]
  have h1:geB a bot = true:=by unfold inW at hw;exact (Bool.and_eq_true_iff.1 hw).1
  have h2:leB a top = true:=by unfold inW at hw;exact (Bool.and_eq_true_iff.1 hw).2
  replace h1:=geR h1
  replace h2:=leR h2
  clear e1 h hw
  generalize trI a = n at *
  generalize floatOfInt .f64 n = u at *
  cases he:eqB a u
  all_goals
   have hne:=neR he
   simp only [Bool.not_false,Bool.not_true] at hne
   replace he:=eqR he
   go_enter Tryz.func217,Tryz.ntmps217
   go_wp2_with fail
   go_ret2
   exact ⟨rfl,rfl⟩
end Go.Proofs.YtmfpmandkhiknaaGreatDoor.flt
namespace Go.Proofs.YtmfpmandkhiknaaGreatDoor.num
/-! Decimal digits -/
def digit (x:Nat):UInt8:=UInt8.ofNat (48 + x % 10)
theorem digit_nat (x:Nat):(digit x).toNat = 48 + x % 10:=by
 simp [digit];omega
def decF:Nat → Nat → List UInt8
 | 0,x => [digit x]
 | f + 1,x=>if x < 10 then [digit x] else decF f (x / 10) ++ [digit x]
def decL (x:Nat):List UInt8:=decF 19 x
def decS (x:Nat):ByteArray:=⟨(decL x).toArray⟩
def digsTo (x:Nat):Nat → List UInt8
 | 0 => []
 | j + 1=>digit (x / 10 ^ j) :: digsTo x j
theorem digsTo_len (x j:Nat):(digsTo x j).length = j:=by
 induction j with
 | zero=>rfl
 | succ j ih=>simp [digsTo,ih]
theorem digsTo_snoc (x j:Nat):digsTo x (j + 1) = digsTo (x / 10) j ++ [digit x]:=by
 induction j with
 | zero=>simp [digsTo]
 | succ j ih =>
  rw [digsTo,ih,digsTo]
  rw [Nat.pow_succ,Nat.mul_comm,← Nat.div_div_eq_div_mul]
  rfl
theorem decF_digs (f x j:Nat) (h:x / 10 ^ (j + 1) = 0) (h2:j = 0 ∨ x / 10 ^ j ≠ 0) (hf:j ≤ f):decF f x = digsTo x (j + 1):=by
 induction f generalizing x j with
 | zero =>
  have:j = 0:=by omega
  subst this
  simp [decF,digsTo]
 | succ f ih =>
  cases j with
  | zero =>
   have hx:x < 10:=by
    have:=Nat.div_eq_zero_iff.1 h
    omega
   simp [decF,hx,digsTo]
  | succ j =>
   have hx:¬ x < 10:=by
    intro hx
    rcases h2 with h2 | h2
    ·omega
    ·apply h2
     apply Nat.div_eq_of_lt
     have:10 ^ 1 ≤ 10 ^ (j + 1):=Nat.pow_le_pow_right (by omega) (by omega)
     omega
   rw [decF,if_neg hx,digsTo_snoc]
   rw [ih (x / 10) j (by rw [Nat.div_div_eq_div_mul,← Nat.pow_succ',h]) (by
    rcases h2 with h2 | h2
    ·omega
    ·right;rw [Nat.div_div_eq_div_mul,← Nat.pow_succ'];exact h2) (by omega)]
theorem decL_digs (x j:Nat) (h:x / 10 ^ (j + 1) = 0) (h2:j = 0 ∨ x / 10 ^ j ≠ 0) (hj:j ≤ 19):decL x = digsTo x (j + 1):=decF_digs 19 x j h h2 hj
theorem decF_more (f x:Nat) (h:x < 10 ^ (f + 1)):decF (f + 1) x = decF f x:=by
 induction f generalizing x with
 | zero=>simp at h;simp [decF,h]
 | succ f ih =>
  rw [decF]
  by_cases hx:x < 10
  ·simp [decF,hx]
  ·rw [if_neg hx,ih (x / 10) (by rw [Nat.pow_succ] at h;omega),decF,if_neg hx]
theorem decF_rec (f x:Nat) (hx:¬ x < 10) (h:x < 10 ^ (f + 1)):decF f x = decF f (x / 10) ++ [digit x]:=by
 rw [← decF_more f x h,decF,if_neg hx]
def ofDecF:List UInt8 → Nat → Option Nat
 | [],x=>some x
 | c :: l,x=>if c.toNat < 48 ∨ 57 < c.toNat ∨ (18446744073709551615 - (c.toNat - 48)) / 10 < x then none else ofDecF l (10 * x + (c.toNat - 48))
def ofDecBad (l:List UInt8):Bool:=decide (l.length < 1) || decide (20 < l.length) || (decide (1 < l.length) && (l.head? == some 48))
def ofDecV (l:List UInt8):Option Nat:=if ofDecBad l then none else ofDecF l 0
def ofDecX (l:List UInt8):Nat:=(ofDecV l).getD 0
def ofDecE (l:List UInt8):Int:=if (ofDecV l).isSome then 0 else 101
theorem ofDec_no {l:List UInt8} (h:ofDecV l = none):ofDecX l = 0 ∧ ofDecE l = 101:=by simp [ofDecX,ofDecE,h]
theorem ofDec_yes {l:List UInt8} {x:Nat} (h:ofDecV l = some x):ofDecX l = x ∧ ofDecE l = 0:=by simp [ofDecX,ofDecE,h]
theorem ofDecF_dec (f x:Nat) (l:List UInt8) (hx:x < 18446744073709551616) (hf:x < 10 ^ (f + 1)):ofDecF (decF f x ++ l) 0 = ofDecF l x:=by
 induction f generalizing x l with
 | zero =>
  simp at hf
  have hd:=digit_nat x
  simp only [decF,List.cons_append,List.nil_append,ofDecF,hd]
  rw [if_neg (by omega)]
  congr 1;omega
 | succ f ih =>
  by_cases h:x < 10
  ·have hd:=digit_nat x
   simp only [decF,h,if_true,List.cons_append,List.nil_append,ofDecF,hd]
   rw [if_neg (by omega)]
   congr 1;omega
  ·rw [decF,if_neg h,List.append_assoc,ih (x / 10) _ (by omega) (by rw [Nat.pow_succ] at hf;omega)]
   have hd:=digit_nat x
   simp only [List.cons_append,List.nil_append,ofDecF,hd]
   rw [if_neg (by omega)]
   congr 1;omega
theorem decF_len (f x:Nat):1 ≤ (decF f x).length ∧ (decF f x).length ≤ f + 1:=by
 induction f generalizing x with
 | zero=>simp [decF]
 | succ f ih =>
  rw [decF];split
  ·simp
  ·have:=ih (x / 10);simp;omega
theorem decF_head (f x:Nat) (h:1 < (decF f x).length) (hx:x < 10 ^ (f + 1)):(decF f x).head? ≠ some 48:=by
 induction f generalizing x with
 | zero=>simp [decF] at h
 | succ f ih =>
  rw [decF] at h ⊢
  split at h
  ·simp at h
  ·rename_i h10
   rw [if_neg h10]
   have hl:=decF_len f (x / 10)
   have hxx:x / 10 < 10 ^ (f + 1):=by rw [Nat.pow_succ] at hx;omega
   rcases Nat.lt_or_ge 1 (decF f (x / 10)).length with h1 | h1
   ·have:=ih _ h1 hxx
    revert this h1
    generalize decF f (x / 10) = L
    intro h1 this
    cases L with
    | nil=>simp at h1
    | cons a L=>simpa using this
   ·have hd:decF f (x / 10) = [digit (x / 10)]:=by
     cases f with
     | zero=>rfl
     | succ f =>
      rw [decF] at h1 ⊢
      split
      ·rfl
      ·rename_i h2
       rw [if_neg h2] at h1
       have:=(decF_len f (x / 10 / 10)).1
       simp at h1;simp [h1] at this
    have h100:x / 10 < 10:=by
     cases f with
     | zero=>simpa using hxx
     | succ f =>
      rcases Nat.lt_or_ge (x / 10) 10 with h3 | h3
      ·exact h3
      ·rw [decF,if_neg (by omega)] at h1
       have:=(decF_len f (x / 10 / 10)).1
       simp at h1;simp [h1] at this
    rw [hd]
    intro e
    simp at e
    have:=digit_nat (x / 10)
    rw [e] at this
    have e48:(48:UInt8).toNat = 48:=rfl
    rw [e48] at this
    omega
theorem pow20:(18446744073709551616:Nat) ≤ 10 ^ 20:=by decide
theorem ofDecV_dec (x:Nat) (hx:x < 18446744073709551616):ofDecV (decL x) = some x:=by
 have hl:=decF_len 19 x
 have h20:x < 10 ^ (19 + 1):=Nat.lt_of_lt_of_le hx pow20
 have hb:ofDecBad (decL x) = false:=by
  unfold ofDecBad decL
  by_cases h1:1 < (decF 19 x).length
  ·have:=decF_head 19 x h1 h20
   have h3:¬ (decF 19 x).length < 1:=by omega
   have h4:¬ 20 < (decF 19 x).length:=by omega
   simp only [h3,h4,decide_false,Bool.false_or,Bool.and_eq_false_iff,beq_eq_false_iff_ne,ne_eq]
   exact Or.inr this
  ·have h3:¬ (decF 19 x).length < 1:=by omega
   have h4:¬ 20 < (decF 19 x).length:=by omega
   simp only [h1,h3,h4,decide_false,Bool.false_or,Bool.false_and]
 have hd:=ofDecF_dec 19 x [] hx h20
 rw [List.append_nil] at hd
 simp only [ofDecV,hb]
 exact hd
end Go.Proofs.YtmfpmandkhiknaaGreatDoor.num
namespace Go.Proofs.YtmfpmandkhiknaaGreatDoor.num
open Go.RowKit
theorem ret_pair {a b a' b':Value} (h1:a = a') (h2:b = b'):Ending.returned (.tuple #[a,b]) = .returned (.tuple #[a',b']):=by rw [h1,h2]
theorem infoU8:(Tryz.prog.info? 5).map (fun i=>(i.zero,i.size,i.bytes)) = some (some (.int .u8 0),1,1):=by kernel_rfl
def U64 (x:Nat):Prop:=x < 18446744073709551616
theorem wrap_div (y d:Nat) (hy:U64 y):IntKind.u64.wrap ((y:Int) / (d:Int)) = ((y / d:Nat):Int):=by
 have h:=Nat.div_le_self y d
 unfold U64 at hy
 rw [← Int.natCast_ediv,IntKind.wrap_u64]
 generalize y / d = q at *
 omega
theorem drop_cons (s:ByteArray) (k:Nat) (h:k < s.size):s.data.toList.drop k = s[k] :: s.data.toList.drop (k + 1):=by
 rw [List.drop_eq_getElem_cons (by simpa using h)];rfl
theorem list_len (s:ByteArray):s.data.toList.length = s.size:=by simp
theorem bcell {W w1:World} (hb:Below W.heap.size W w1):(∀ b o,b < W.heap.size → w1.cell? ⟨b,o,none⟩ = W.cell? ⟨b,o,none⟩) ∧ (∀ b o,b < W.heap.size → w1.frozen? ⟨b,o,none⟩ = W.frozen? ⟨b,o,none⟩):=
 ⟨fun b o h=>hb.cell (p:=⟨b,o,none⟩) h,fun b o h=>hb.frozen (p:=⟨b,o,none⟩) h⟩
theorem conv_one (w:World) (g cap:Nat) (d:Int) (h:w.cell? ⟨g,0,none⟩ = some (.int .u8 d)) :
  (convert 58 9 (.slice (some ⟨g,0,none⟩) 1 cap)).run Tryz.prog w = .ok (.string ⟨#[UInt8.ofNat d.toNat]⟩) w:=by
 have:=run_convert_bytes_arg w 58 5 Tryz.underlying58 Tryz.underlying5 g 0 1 cap [d] rfl (fun i hi=>by
  obtain rfl:i = 0:=by omega
  simpa using h) 9 Tryz.underlying9
 simpa [strOfNums] using this
theorem ret_str {a b:ByteArray} (h:a = b):Ending.returned (.string a) = .returned (.string b):=by rw [h]
theorem digit_small (x:Nat) (h:x < 10):UInt8.ofNat (48 + x) = digit x:=by unfold digit;rw [Nat.mod_eq_of_lt h]
theorem digit_sum (x:Nat):48 + UInt8.ofNat (x % 10) = digit x:=by
 unfold digit
 apply UInt8.toNat_inj.1
 simp
theorem decF_small (f x:Nat) (h:x < 10):decF f x = [digit x]:=by cases f <;> simp [decF,h]
theorem push_list (l:List UInt8) (c:UInt8):(⟨l.toArray⟩:ByteArray) ++ ⟨#[c]⟩ = ⟨(l ++ [c]).toArray⟩:=by
 apply ByteArray.ext
 simp [ByteArray.data_append]
set_option maxRecDepth 100000 in
theorem rDec_ind (f:Nat):∀ (x:Nat) (w:World),U64 x → x < 10 ^ (f + 1) → f ≤ 19 →
  Calls Tryz.prog 218 #[.int .u64 x] w fun e w'=>e = .returned (.string ⟨(decF f x).toArray⟩) ∧ Below w.heap.size w w':=by
 induction f with
 | zero =>
  intro x w hx h hf
  have h10:x < 10:=by simpa using h
  have HD:Hid (decF 0 x = [digit x]):=decF_small 0 x h10
  have HS:Hid (UInt8.ofNat (48 + x) = digit x):=digit_small x h10
  clear h
  have hc:=conv_one
  go_enter Tryz.func218,Tryz.ntmps218
  go_wp2_with fail
  go_ret
  exact ⟨ret_str (by rw [HD.out,HS.out]),(Below.refl _ _).alloc (Nat.le_refl _) _⟩
 | succ f ih =>
  intro x w hx h hf
  by_cases h10:x < 10
  ·have HD:Hid (decF (f + 1) x = [digit x]):=decF_small (f + 1) x h10
   have HS:Hid (UInt8.ofNat (48 + x) = digit x):=digit_small x h10
   clear h ih
   have hc:=conv_one
   go_enter Tryz.func218,Tryz.ntmps218
   go_wp2_with fail
   go_ret
   exact ⟨ret_str (by rw [HD.out,HS.out]),(Below.refl _ _).alloc (Nat.le_refl _) _⟩
  ·have IH:=Lib.hid fun w=>ih (x / 10) w (Nat.lt_of_le_of_lt (Nat.div_le_self _ _) hx) (by rw [Nat.pow_succ] at h;omega) (by omega)
   have HD:Hid (decF (f + 1) x = decF f (x / 10) ++ [digit x]):=by rw [Hid,decF,if_neg h10]
   have HS:=Lib.hid (digit_sum x)
   have hsz0:(⟨(decF f (x / 10)).toArray⟩:ByteArray).size ≤ 20:=by
    have:=(decF_len f (x / 10)).2
    show (decF f (x / 10)).toArray.size ≤ 20
    rw [List.size_toArray];omega
   have HP:=Lib.hid (push_list (decF f (x / 10)) (digit x))
   clear h ih
   have hcv:=conv_one
   have hw:IntKind.u64.wrap ((x:Int) / 10) = ((x / 10:Nat):Int):=wrap_div x 10 hx
   generalize (⟨(decF f (x / 10)).toArray⟩:ByteArray) = S at *
   go_enter Tryz.func218,Tryz.ntmps218
   go_wp2_with fail
   go_region_with (go_at_call 218;refine (IH.out _).mono ?_;rintro e w1 ⟨rfl,hb⟩;obtain ⟨hc,hf⟩:=bcell hb)
   all_goals
    go_wp2
    go_ret
    refine ⟨ret_str (by rw [HS.out,HP.out,HD.out]),?_⟩
    first
     | exact Below.alloc (B:=w.heap.size) (a:=w) ⟨hb.os,hb.tape,hb.output,hb.size,hb.block⟩ hb.size _
     | exact (((Below.refl w.heap.size w).alloc (Nat.le_refl _) _).drew).trans (hb.mono (by simp))
     | exact ((Below.refl w.heap.size w).alloc (Nat.le_refl _) _).trans (hb.mono (by simp))
theorem rDec_any (x:Nat) (w:World) (hx:U64 x) :
  Calls Tryz.prog 218 #[.int .u64 x] w fun e w'=>e = .returned (.string (decS x)) ∧ Below w.heap.size w w':=
 rDec_ind 19 x w hx (Nat.lt_of_lt_of_le hx pow20) (Nat.le_refl _)
/-! num.Dec: the digits are laid from the end of a row of twenty cells -/
def byteV (c:UInt8):Value:=.int .u8 (c.toNat:Int)
def Zs:List Value:=List.replicate 20 (.int .u8 0)
theorem cell_block {w:World} {B:Nat} {cs:Array Value} {t:TypeId} (h:w.heap[B]? = some (.cells cs t (0,0))) (i:Nat):w.cell? ⟨B,i,none⟩ = cs[i]?:=by simp [World.cell?,h]
theorem free_block {w:World} {B:Nat} {cs:Array Value} {t:TypeId} (h:w.heap[B]? = some (.cells cs t (0,0))) (i:Nat):w.frozen? ⟨B,i,none⟩ = false:=by simp [World.frozen?,h]
theorem set_drop (cs:List Value) (a:Nat) (v:Value) (h:a < cs.length):(cs.set a v).drop a = v :: cs.drop (a + 1):=by
 apply List.ext_getElem?;intro i
 cases i with
 | zero=>simp [h]
 | succ i =>
  rw [List.getElem?_drop,List.getElem?_set,if_neg (by omega),List.getElem?_cons_succ,List.getElem?_drop]
  congr 1;omega
theorem digitV (y:Nat):Value.int .u8 (48 + (y:Int) % 10) = byteV (digit y):=by
 unfold byteV;rw [digit_nat];congr 1
theorem conv_row {w:World} {B a:Nat} {cs:List Value} {l:List UInt8} (hb:w.heap[B]? = some (.cells cs.toArray 211 (0,0))) (hd:cs.drop a = l.map byteV) :
  (convert 58 9 (.slice (some ⟨B,a,none⟩) l.length l.length)).run Tryz.prog w = .ok (.string ⟨l.toArray⟩) w:=by
 refine run_convert_bytes_back w 58 9 5 ⟨B,a,none⟩ l.length l Tryz.underlying58 Tryz.underlying5 Tryz.underlying9 (fun j hj => ?_)
 have e:(⟨B,a,none⟩:Addr).add j = ⟨B,a + j,none⟩:=by unfold Addr.add;split <;> simp_all
 rw [e,cell_block hb]
 have h1:(cs.drop a)[j]? = (l.map byteV)[j]?:=by rw [hd]
 rw [List.getElem?_drop] at h1
 rw [List.getElem?_toArray,h1]
 simp [hj,byteV]
theorem below_ten (x j:Nat) (hx:U64 x) (h:j = 0 ∨ x / 10 ^ j ≠ 0):j < 20:=by
 rcases Nat.lt_or_ge j 20 with h1 | h1
 ·exact h1
 ·exfalso
  rcases h with h | h
  ·omega
  ·apply h
   apply Nat.div_eq_of_lt
   have h2:10 ^ 20 ≤ 10 ^ j:=Nat.pow_le_pow_right (by omega) h1
   exact Nat.lt_of_lt_of_le (Nat.lt_of_lt_of_le hx pow20) h2
theorem arr20:Tryz.prog.underlying 211 = some (.array (Tryz.prog.arrayLen 211) (Tryz.prog.elem 211)):=by kernel_rfl
theorem len20:Tryz.prog.arrayLen 211 = 20:=by kernel_rfl
theorem elem20 (w:World):(sizeOf (Tryz.prog.elem 211)).run Tryz.prog w = .ok 1 w:=by kernel_rfl
theorem slice_row (B a j:Nat) (h:a + j = 20) (h1:1 ≤ a) (w:World) :
  (Instr.sliceAt 211 (.pointer (some ⟨B,0,none⟩)) (some (.int .i64 ((a:Int) - 1))) none none).run Tryz.prog w = .ok (.slice (some ⟨B,a - 1,none⟩) (j + 1) (j + 1)) w:=by
 rw [run_sliceAt_array_l w 211 ⟨B,0,none⟩ arr20 .i64 ((a:Int) - 1) (by omega) (by rw [len20];omega),elem20,len20]
 simp only [Result.andThen,slicedAt]
 rw [if_neg (by omega),show ((a:Int) - 1).toNat = a - 1 from by omega,show 20 - (a - 1) = j + 1 from by omega]
 simp [Addr.add]
 omega
set_option maxRecDepth 100000 in
theorem Dec_any (x:Nat) (w:World) (hx:U64 x) :
  Calls Tryz.prog 161 #[.int .u64 x] w fun e w'=>e = .returned (.string (decS x)) ∧ Below w.heap.size w w':=by
 have hz:(w.alloc (.cells Zs.toArray 211)).heap[w.heap.size]? = some (.cells Zs.toArray 211 (0,0)):=heap_alloc_new w _
 have hzb:Below w.heap.size w (w.alloc (.cells Zs.toArray 211)):=(Below.refl _ _).alloc (Nat.le_refl _) _
 have HZ:=Lib.hid hz;have HZB:=Lib.hid hzb;clear hz hzb
 go_enter Tryz.func161,Tryz.ntmps161
 go_wp2_with fail
 go_loopw [0,4] (fun y at' wr=>∃ j a:Nat,∃ cs:List Value,a + j = 20 ∧ (j = 0 ∨ x / 10 ^ j ≠ 0) ∧ y = .int .u64 (x / 10 ^ j:Nat) ∧ at' = .int .i64 a ∧ wr.heap[w.heap.size]? = some (.cells cs.toArray 211 (0,0)) ∧ cs.length = 20 ∧ cs.drop a = (digsTo x j).map byteV ∧ Below w.heap.size w wr) (fun _ i _=>(intOf i).toNat)
 case atStart=>exact ⟨0,20,Zs,rfl,.inl rfl,by simp,rfl,HZ.out,rfl,rfl,HZB.out⟩
 case round =>
  obtain ⟨j,a,cs,haj,hj,rfl,rfl,hb,hcl,hcd,hbel⟩:=hrel
  have hj20:=below_ten x j hx hj
  have ha1:1 ≤ a:=by omega
  have ha2:a ≤ 20:=by omega
  have HA:=Lib.hid haj
  have hc:wr.cell? ⟨w.heap.size,a - 1,none⟩ = some (cs[a - 1]'(by omega)):=by rw [cell_block hb];simp [show a - 1 < cs.length by omega]
  have hf:wr.frozen? ⟨w.heap.size,a - 1,none⟩ = false:=free_block hb _
  obtain ⟨u,hu⟩:∃ u,u = cs[a - 1]'(by omega):=⟨_,rfl⟩
  rw [← hu] at hc;clear hu
  have HN:Hid ((wr.setCell ⟨w.heap.size,a - 1,none⟩ (byteV (digit (x / 10 ^ j)))).heap[w.heap.size]? = some (.cells (cs.set (a - 1) (byteV (digit (x / 10 ^ j)))).toArray 211 (0,0))):=by
   have:=heap_setCell_same wr w.heap.size (a - 1) cs.toArray 211 (byteV (digit (x / 10 ^ j))) hb
   rw [Hid,this];simp
  have HL:Hid ((cs.set (a - 1) (byteV (digit (x / 10 ^ j)))).length = 20):=by simpa [Hid] using hcl
  have HDR:Hid ((cs.set (a - 1) (byteV (digit (x / 10 ^ j)))).drop (a - 1) = (digsTo x (j + 1)).map byteV):=by
   rw [Hid,set_drop _ _ _ (by omega),show a - 1 + 1 = a from by omega,hcd];rfl
  have HB:Hid (Below w.heap.size w (wr.setCell ⟨w.heap.size,a - 1,none⟩ (byteV (digit (x / 10 ^ j))))):=hbel.setCell (Nat.le_refl _) _
  have HV:=Lib.hid (digitV (x / 10 ^ j))
  have HQ:Hid (IntKind.u64.wrap (((x / 10 ^ j:Nat):Int) / 10) = ((x / 10 ^ (j + 1):Nat):Int)):=by
   have h1:=wrap_div (x / 10 ^ j) 10 (Nat.lt_of_le_of_lt (Nat.div_le_self _ _) hx)
   rw [Nat.div_div_eq_div_mul,← Nat.pow_succ] at h1
   exact h1
  have HJ:=Lib.hid hj
  clear haj hj hb hcl hcd hbel
  by_cases hq:x / 10 ^ (j + 1) = 0
  ·have HD:Hid (decL x = digsTo x (j + 1)):=decL_digs x j hq HJ.out (by omega)
   have HCV:=Lib.hid (conv_row HN.out HDR.out)
   rw [digsTo_len] at HCV
   rw [hq] at HQ
   generalize x / 10 ^ j = y at *
   have hwq:=HQ.out
   have hsl:=slice_row w.heap.size a j HA.out ha1
   rw [← HV.out] at HCV HB
   have hcv:=HCV.out
   clear hq HCV
   go_wp2
   go_ret
   exact ⟨ret_str (by rw [decS,HD.out]),HB.out⟩
  ·have hb0:(((x / 10 ^ (j + 1):Nat):Int) == 0) = false:=beq_eq_false_iff_ne.2 (by omega)
   have HQ2:=Lib.hid hq;clear hq
   generalize hy2:x / 10 ^ (j + 1) = y2 at *
   have HY2:=Lib.hid hy2;clear hy2
   generalize x / 10 ^ j = y at *
   have hwq:=HQ.out
   rw [← HV.out] at HN HL HDR HB
   go_wp2
   go_roundw
   case rel=>exact ⟨j + 1,a - 1,_,by have:=HA.out;omega,.inr (by rw [HY2.out];exact HQ2.out),by rw [HY2.out],by go_num,HN.out,HL.out,HDR.out,HB.out⟩
   case measure=>simp [intOf];omega
/-! OfDec -/
theorem ofDec_step (y c:Nat) (h:48 ≤ c):Value.int .u64 (10 * (y:Int) + ((c:Int) - 48)) = .int .u64 ((10 * y + (c - 48):Nat):Int):=by
 congr 1;omega
theorem head_get (s:ByteArray) (h:0 < s.size):s.data.toList.head? = some s[0]:=by
 have:=drop_cons s 0 h
 rw [List.drop_zero] at this
 rw [this];rfl
theorem bad_short (s:ByteArray) (h:s.size < 1 ∨ 20 < s.size):ofDecV s.data.toList = none:=by
 have:ofDecBad s.data.toList = true:=by
  unfold ofDecBad;rw [list_len]
  rcases h with h | h <;> simp [h]
 simp [ofDecV,this]
theorem bad_zero (s:ByteArray) (h:1 < s.size) (hz:((s[0].toNat:Int) == 48) = true):ofDecV s.data.toList = none:=by
 have h48:s[0] = 48:=by
  apply UInt8.toNat_inj.1
  have:(s[0].toNat:Int) = 48:=by simpa using hz
  show s[0].toNat = 48
  omega
 have:ofDecBad s.data.toList = true:=by
  unfold ofDecBad;rw [list_len,head_get s (by omega),h48]
  simp [h]
 simp [ofDecV,this]
theorem good_in (s:ByteArray) (h1:1 ≤ s.size) (h2:s.size ≤ 20) (hz:s.size = 1 ∨ ∃ h:1 < s.size,((s[0].toNat:Int) == 48) = false):ofDecV s.data.toList = ofDecF s.data.toList 0:=by
 have:ofDecBad s.data.toList = false:=by
  unfold ofDecBad;rw [list_len,head_get s (by omega)]
  have a1:¬ s.size < 1:=by omega
  have a2:¬ 20 < s.size:=by omega
  rcases hz with hz | ⟨h,hz⟩
  ·simp [hz]
  ·have h48:¬ s[0] = 48:=by
    intro e
    rw [e] at hz
    exact absurd hz (by decide)
   simp [a1,a2,h48]
 simp [ofDecV,this]
set_option maxRecDepth 100000 in
theorem OfDec_short (s:ByteArray) (w:World) (h:s.size < 1 ∨ 20 < s.size) (hm:s.size ≤ 9223372036854775807) :
  Calls Tryz.prog 171 #[.string s] w fun e w'=>e = .returned (.tuple #[.int .u64 0,.int .i64 101]) ∧ w = w':=by
 rcases h with h | h
 ·have hd:decide ((s.size:Int) < 1) = true:=by simp;omega
  go_enter Tryz.func171,Tryz.ntmps171
  go_wp2
  go_ret2
  exact ⟨rfl,rfl⟩
 ·have hd:decide ((s.size:Int) < 1) = false:=by simp;omega
  have hd2:decide (20 < (s.size:Int)) = true:=by simp;omega
  go_enter Tryz.func171,Tryz.ntmps171
  go_wp2
  go_ret2
  exact ⟨rfl,rfl⟩
set_option maxRecDepth 100000 in
theorem OfDec_zero (s:ByteArray) (w:World) (h1:1 < s.size) (h2:s.size ≤ 20) (hz:((s[0].toNat:Int) == 48) = true) :
  Calls Tryz.prog 171 #[.string s] w fun e w'=>e = .returned (.tuple #[.int .u64 0,.int .i64 101]) ∧ w = w':=by
 have hd1:decide ((s.size:Int) < 1) = false:=by simp;omega
 have hd2:decide (20 < (s.size:Int)) = false:=by simp;omega
 have hd3:decide (1 < (s.size:Int)) = true:=by simp;omega
 go_enter Tryz.func171,Tryz.ntmps171
 go_wp2
 go_ret2
 exact ⟨rfl,rfl⟩
set_option maxRecDepth 100000 in
set_option maxHeartbeats 800000 in
theorem OfDec_in (s:ByteArray) (w:World) (h1:1 ≤ s.size) (h2:s.size ≤ 20) (hz:s.size = 1 ∨ ((s[0].toNat:Int) == 48) = false)
  (HN:Hid (ofDecF s.data.toList 0 = none → ofDecX s.data.toList = 0 ∧ ofDecE s.data.toList = 101)) (HY:Hid (∀ y,ofDecF s.data.toList 0 = some y → ofDecX s.data.toList = y ∧ ofDecE s.data.toList = 0)) :
  Calls Tryz.prog 171 #[.string s] w fun e w'=>e = .returned (.tuple #[.int .u64 (ofDecX s.data.toList),.int .i64 (ofDecE s.data.toList)]) ∧ w = w':=by
 have hd1:decide ((s.size:Int) < 1) = false:=by simp;omega
 have hd2:decide (20 < (s.size:Int)) = false:=by simp;omega
 have hz':decide (1 < (s.size:Int)) = false ∨ (decide (1 < (s.size:Int)) = true ∧ ((s[0].toNat:Int) == 48) = false):=by
  rcases Nat.lt_or_ge 1 s.size with h | h
  ·exact .inr ⟨by simp;omega,hz.resolve_left (by omega)⟩
  ·exact .inl (by simp;omega)
 clear hz
 rcases hz' with hd3 | ⟨hd3,hd4⟩
 all_goals
  go_enter Tryz.func171,Tryz.ntmps171
  go_wp2
  go_loop [4,5,6,27] (fun x _ _ i=>∃ k:Nat,∃ y:Nat,k ≤ s.size ∧ i = .int .i64 k ∧ x = .int .u64 y ∧ Hid (ofDecF (s.data.toList.drop k) y = ofDecF s.data.toList 0)) (fun _ _ _ i=>s.size - (intOf i).toNat)
  case atStart=>exact ⟨0,0,Nat.zero_le _,rfl,rfl,rfl⟩
  case round =>
   obtain ⟨k,y,hk,rfl,rfl,HI⟩:=hrel
   by_cases hlt:k < s.size
   ·have HS:Hid (ofDecF s.data.toList 0 = if s[k].toNat < 48 ∨ 57 < s[k].toNat ∨ (18446744073709551615 - (s[k].toNat - 48)) / 10 < y then none else ofDecF (s.data.toList.drop (k + 1)) (10 * y + (s[k].toNat - 48))):=by
     have h:=HI.out
     rw [drop_cons s k hlt,ofDecF] at h
     exact h.symm
    have hcn:=s[k].toNat_lt
    go_wp2
    all_goals first
     | (go_ret2;have hn:ofDecF s.data.toList 0 = none:=by rw [HS.out,if_pos (by omega)]
        exact ⟨by rw [(HN.out hn).1,(HN.out hn).2];rfl,rfl⟩)
     | (have hr:=HS.out
        rw [if_neg (by omega)] at hr
        go_round
        case rel=>exact ⟨k + 1,_,by omega,by go_num,ofDec_step y s[k].toNat (by omega),hr.symm⟩
        case measure=>simp [intOf];omega)
   ·have HT:Hid (ofDecF s.data.toList 0 = some y):=by
     have h:=HI.out
     rw [List.drop_of_length_le (by rw [list_len];omega)] at h
     exact h.symm
    have HF:=Lib.hid (HY.out y HT.out)
    go_wp2
    go_ret2
    exact ⟨by rw [HF.out.1,HF.out.2];rfl,rfl⟩
theorem OfDec_any (s:ByteArray) (w:World) (hm:s.size ≤ maxLen) :
  Calls Tryz.prog 171 #[.string s] w fun e w'=>e = .returned (.tuple #[.int .u64 (ofDecX s.data.toList),.int .i64 (ofDecE s.data.toList)]) ∧ w = w':=by
 unfold maxLen at hm
 by_cases h:s.size < 1 ∨ 20 < s.size
 ·rw [(ofDec_no (bad_short s h)).1,(ofDec_no (bad_short s h)).2]
  exact OfDec_short s w h (by omega)
 by_cases h1:1 < s.size
 ·by_cases hz:((s[0].toNat:Int) == 48) = true
  ·rw [(ofDec_no (bad_zero s h1 hz)).1,(ofDec_no (bad_zero s h1 hz)).2]
   exact OfDec_zero s w h1 (by omega) hz
  ·have hz:((s[0].toNat:Int) == 48) = false:=by simpa using hz
   have hg:=good_in s (by omega) (by omega) (.inr ⟨h1,hz⟩)
   exact OfDec_in s w (by omega) (by omega) (.inr hz) (fun hn=>ofDec_no (by rw [hg];exact hn)) (fun y hy=>ofDec_yes (by rw [hg];exact hy))
 ·have hg:=good_in s (by omega) (by omega) (.inl (by omega))
  exact OfDec_in s w (by omega) (by omega) (.inl (by omega)) (fun hn=>ofDec_no (by rw [hg];exact hn)) (fun y hy=>ofDec_yes (by rw [hg];exact hy))
set_option maxRecDepth 100000 in
theorem rOfDec_short (s:ByteArray) (w:World) (h:s.size < 1 ∨ 20 < s.size) (hm:s.size ≤ 9223372036854775807) :
  Calls Tryz.prog 198 #[.string s] w fun e w'=>e = .returned (.tuple #[.int .u64 0,.int .i64 101]) ∧ w = w':=by
 rcases h with h | h
 ·have hd:decide ((s.size:Int) < 1) = true:=by simp;omega
  go_enter Tryz.func198,Tryz.ntmps198
  go_wp2
  go_ret2
  exact ⟨rfl,rfl⟩
 ·have hd:decide ((s.size:Int) < 1) = false:=by simp;omega
  have hd2:decide (20 < (s.size:Int)) = true:=by simp;omega
  go_enter Tryz.func198,Tryz.ntmps198
  go_wp2
  go_ret2
  exact ⟨rfl,rfl⟩
set_option maxRecDepth 100000 in
theorem rOfDec_zero (s:ByteArray) (w:World) (h1:1 < s.size) (h2:s.size ≤ 20) (hz:((s[0].toNat:Int) == 48) = true) :
  Calls Tryz.prog 198 #[.string s] w fun e w'=>e = .returned (.tuple #[.int .u64 0,.int .i64 101]) ∧ w = w':=by
 have hd1:decide ((s.size:Int) < 1) = false:=by simp;omega
 have hd2:decide (20 < (s.size:Int)) = false:=by simp;omega
 have hd3:decide (1 < (s.size:Int)) = true:=by simp;omega
 go_enter Tryz.func198,Tryz.ntmps198
 go_wp2
 go_ret2
 exact ⟨rfl,rfl⟩
set_option maxRecDepth 100000 in
set_option maxHeartbeats 800000 in
theorem rOfDec_in (s:ByteArray) (w:World) (h1:1 ≤ s.size) (h2:s.size ≤ 20) (hz:s.size = 1 ∨ ((s[0].toNat:Int) == 48) = false)
  (HN:Hid (ofDecF s.data.toList 0 = none → ofDecX s.data.toList = 0 ∧ ofDecE s.data.toList = 101)) (HY:Hid (∀ y,ofDecF s.data.toList 0 = some y → ofDecX s.data.toList = y ∧ ofDecE s.data.toList = 0)) :
  Calls Tryz.prog 198 #[.string s] w fun e w'=>e = .returned (.tuple #[.int .u64 (ofDecX s.data.toList),.int .i64 (ofDecE s.data.toList)]) ∧ w = w':=by
 have hd1:decide ((s.size:Int) < 1) = false:=by simp;omega
 have hd2:decide (20 < (s.size:Int)) = false:=by simp;omega
 have hz':decide (1 < (s.size:Int)) = false ∨ (decide (1 < (s.size:Int)) = true ∧ ((s[0].toNat:Int) == 48) = false):=by
  rcases Nat.lt_or_ge 1 s.size with h | h
  ·exact .inr ⟨by simp;omega,hz.resolve_left (by omega)⟩
  ·exact .inl (by simp;omega)
 clear hz
 rcases hz' with hd3 | ⟨hd3,hd4⟩
 all_goals
  go_enter Tryz.func198,Tryz.ntmps198
  go_wp2
  go_loop [4,5,6] (fun x i _=>∃ k:Nat,∃ y:Nat,k ≤ s.size ∧ i = .int .i64 k ∧ x = .int .u64 y ∧ Hid (ofDecF (s.data.toList.drop k) y = ofDecF s.data.toList 0)) (fun _ i _=>s.size - (intOf i).toNat)
  case atStart=>exact ⟨0,0,Nat.zero_le _,rfl,rfl,rfl⟩
  case round =>
   obtain ⟨k,y,hk,rfl,rfl,HI⟩:=hrel
   by_cases hlt:k < s.size
   ·have HS:Hid (ofDecF s.data.toList 0 = if s[k].toNat < 48 ∨ 57 < s[k].toNat ∨ (18446744073709551615 - (s[k].toNat - 48)) / 10 < y then none else ofDecF (s.data.toList.drop (k + 1)) (10 * y + (s[k].toNat - 48))):=by
     have h:=HI.out
     rw [drop_cons s k hlt,ofDecF] at h
     exact h.symm
    have hcn:=s[k].toNat_lt
    go_wp2
    all_goals first
     | (go_ret2;have hn:ofDecF s.data.toList 0 = none:=by rw [HS.out,if_pos (by omega)]
        exact ⟨by rw [(HN.out hn).1,(HN.out hn).2];rfl,rfl⟩)
     | (have hr:=HS.out
        rw [if_neg (by omega)] at hr
        go_round
        case rel=>exact ⟨k + 1,_,by omega,by go_num,ofDec_step y s[k].toNat (by omega),hr.symm⟩
        case measure=>simp [intOf];omega)
   ·have HT:Hid (ofDecF s.data.toList 0 = some y):=by
     have h:=HI.out
     rw [List.drop_of_length_le (by rw [list_len];omega)] at h
     exact h.symm
    have HF:=Lib.hid (HY.out y HT.out)
    go_wp2
    go_ret2
    exact ⟨by rw [HF.out.1,HF.out.2];rfl,rfl⟩
theorem rOfDec_any (s:ByteArray) (w:World) (hm:s.size ≤ maxLen) :
  Calls Tryz.prog 198 #[.string s] w fun e w'=>e = .returned (.tuple #[.int .u64 (ofDecX s.data.toList),.int .i64 (ofDecE s.data.toList)]) ∧ w = w':=by
 unfold maxLen at hm
 by_cases h:s.size < 1 ∨ 20 < s.size
 ·rw [(ofDec_no (bad_short s h)).1,(ofDec_no (bad_short s h)).2]
  exact rOfDec_short s w h (by omega)
 by_cases h1:1 < s.size
 ·by_cases hz:((s[0].toNat:Int) == 48) = true
  ·rw [(ofDec_no (bad_zero s h1 hz)).1,(ofDec_no (bad_zero s h1 hz)).2]
   exact rOfDec_zero s w h1 (by omega) hz
  ·have hz:((s[0].toNat:Int) == 48) = false:=by simpa using hz
   have hg:=good_in s (by omega) (by omega) (.inr ⟨h1,hz⟩)
   exact rOfDec_in s w (by omega) (by omega) (.inr hz) (fun hn=>ofDec_no (by rw [hg];exact hn)) (fun y hy=>ofDec_yes (by rw [hg];exact hy))
 ·have hg:=good_in s (by omega) (by omega) (.inl (by omega))
  exact rOfDec_in s w (by omega) (by omega) (.inl (by omega)) (fun hn=>ofDec_no (by rw [hg];exact hn)) (fun y hy=>ofDec_yes (by rw [hg];exact hy))
end Go.Proofs.YtmfpmandkhiknaaGreatDoor.num
namespace Go.Proofs.YtmfpmandkhiknaaGreatDoor.flt
open Go.RowKit Ieee
open num (U64 decS decL Dec_any rDec_any ret_str ret_pair)
set_option maxRecDepth 100000
def strip:Nat → Nat → Nat × Nat
 | 0,m=>(m,0)
 | f + 1,m=>if m % 2 = 0 then ((strip f (m / 2)).1,(strip f (m / 2)).2 + 1) else (m,0)
theorem bits_and (a:Nat) (h:a < 18446744073709551616) (k:Nat) (hk:k < 64):bits .and .u64 (a:Int) ((2 ^ k - 1:Nat):Int) = (a % 2 ^ k:Nat):=by
 have h2:2 ^ k ≤ 2 ^ 63:=Nat.pow_le_pow_right (by omega) (by omega)
 have h3:2 ^ k - 1 < 18446744073709551616:=by omega
 have e:(BitVec.ofInt 64 (a:Int) &&& BitVec.ofInt 64 ((2 ^ k - 1:Nat):Int)).toNat = a % 2 ^ k:=by
  rw [BitVec.toNat_and,BitVec.ofInt_natCast,BitVec.toNat_ofNat,Nat.mod_eq_of_lt h,BitVec.ofInt_natCast,BitVec.toNat_ofNat,Nat.mod_eq_of_lt h3]
  exact Nat.and_two_pow_sub_one_eq_mod a k
 show IntKind.u64.wrap (((BitVec.ofInt 64 (a:Int) &&& BitVec.ofInt 64 ((2 ^ k - 1:Nat):Int)).toNat:Nat):Int) = _
 rw [e,IntKind.wrap_u64]
 have:a % 2 ^ k ≤ a:=Nat.mod_le _ _
 omega
theorem and52 (a:Nat) (h:a < 18446744073709551616):bits .and .u64 (a:Int) 4503599627370495 = (a % 4503599627370496:Nat):=bits_and a h 52 (by omega)
theorem and11 (a:Nat) (h:a < 18446744073709551616):bits .and .u64 (a:Int) 2047 = (a % 2048:Nat):=bits_and a h 11 (by omega)
theorem and1 (a:Nat) (h:a < 18446744073709551616):bits .and .u64 (a:Int) 1 = (a % 2:Nat):=bits_and a h 1 (by omega)
theorem or52 (a:Nat) (h:a < 4503599627370496):bits .or .u64 (a:Int) 4503599627370496 = (4503599627370496 + a:Nat):=by
 have e:(BitVec.ofInt 64 (a:Int) ||| BitVec.ofInt 64 4503599627370496).toNat = 4503599627370496 + a:=by
  rw [BitVec.toNat_or,BitVec.ofInt_natCast,BitVec.toNat_ofNat,Nat.mod_eq_of_lt (by omega)]
  show a ||| 2 ^ 52 = 2 ^ 52 + a
  rw [Nat.or_comm]
  exact (Nat.two_pow_add_eq_or_of_lt (i:=52) (by omega) 1 ▸ by simp)
 show IntKind.u64.wrap (((BitVec.ofInt 64 (a:Int) ||| BitVec.ofInt 64 4503599627370496).toNat:Nat):Int) = _
 rw [e,IntKind.wrap_u64]
 omega
attribute [local go_sem] fmt64 run_bits run_frombits
theorem strip_even (f m:Nat) (h:m % 2 = 0):strip (f + 1) m = ((strip f (m / 2)).1,(strip f (m / 2)).2 + 1):=by rw [strip,if_pos h]
theorem strip_odd (f m:Nat) (h:m % 2 = 1):strip f m = (m,0):=by
 cases f with
 | zero=>rfl
 | succ f=>rw [strip,if_neg (by omega)]
theorem half_lt (f m:Nat) (h:m < 2 ^ (f + 1)):m / 2 < 2 ^ f:=by rw [Nat.pow_succ] at h;omega
def StripAt (s m f k:Nat):Prop:=m < 2 ^ f ∧ 0 < m ∧ k ≤ 64 ∧ k + f = 64 ∧ strip 64 s = ((strip f m).1,(strip f m).2 + k) ∧ m < 18446744073709551616
theorem StripAt.start {s:Nat} (h0:0 < s) (h:s < 18446744073709551616):StripAt s s 64 0:=⟨h,h0,by omega,by omega,rfl,h⟩
theorem StripAt.step {s m f k:Nat} (h:StripAt s m f k) (he:m % 2 = 0):∃ f',StripAt s (m / 2) f' (k + 1):=by
 obtain ⟨h1,h2,h3,h4,h5,h6⟩:=h
 cases f with
 | zero=>simp at h1;omega
 | succ f =>
  refine ⟨f,half_lt f m h1,by omega,by omega,by omega,?_,by omega⟩
  rw [h5,strip_even f m he]
  simp only [Prod.mk.injEq,true_and]
  omega
theorem StripAt.stop {s m f k:Nat} (h:StripAt s m f k) (he:m % 2 = 1):(strip 64 s).1 = m ∧ (strip 64 s).2 = k:=by
 obtain ⟨h1,h2,h3,h4,h5,h6⟩:=h
 rw [h5,strip_odd f m he]
 exact ⟨rfl,by simp⟩
theorem sg_zero (a:Nat) (h:a / 4503599627370496 = 0):sg a = a % 4503599627370496 ∧ pl a = 0:=by
 unfold sg pl
 rw [if_pos (by omega)]
 omega
theorem sg_pos (a:Nat) (h:¬ a / 4503599627370496 = 0):sg a = 4503599627370496 + a % 4503599627370496 ∧ (pl a:Int) - 1074 = (a / 4503599627370496:Nat) - 1075:=by
 unfold sg pl
 rw [if_neg (by omega)]
 omega
theorem parts_any (a:Nat) (w:World) (h:a < 9218868437227405312) (h0:0 < a):Calls Tryz.prog 160 #[fv a] w fun e w'=>e = .returned (.tuple #[.int .u64 (strip 64 (sg a)).1,.int .i64 ((pl a:Int) - 1074 + (strip 64 (sg a)).2)]) ∧ w = w':=by
 have h1:=and52 a (by omega)
 have h2:bits .and .u64 ((a / 4503599627370496:Nat):Int) 2047 = ((a / 4503599627370496:Nat):Int):=by rw [and11 (a / 4503599627370496) (by omega)];omega
 have hq:((a:Int) / 4503599627370496) = ((a / 4503599627370496:Nat):Int):=by omega
 have hx:a / 4503599627370496 ≤ 2046:=by omega
 have h3:=or52 (a % 4503599627370496) (by omega)
 have hz:=sg_zero a
 have hp:=sg_pos a
 have hs0:a / 4503599627370496 = 0 → 0 < a % 4503599627370496:=by omega
 have hs1:a % 4503599627370496 < 4503599627370496:=by omega
 have e1:((a % 4503599627370496:Nat):Int) = (a:Int) % 4503599627370496:=by omega
 generalize a % 4503599627370496 = m at *
 generalize a / 4503599627370496 = x at *
 generalize hS:sg a = s at *
 generalize hP:(pl a:Int) = p at *
 clear hS h h0
 have HN:=Lib.hid hq;have HM:=Lib.hid e1
 by_cases hx0:x = 0
 ·subst hx0
  obtain ⟨rfl,hp0⟩:=hz rfl
  have hp1:p = 0:=by omega
  subst hp1
  have hm0:=hs0 rfl
  have HS:=Lib.hid (StripAt.start (s:=s) hm0 (by omega))
  clear hz hp hs0 h3 hP hp0 e1 hx HN
  replace hq:((a:Int) / 4503599627370496) = 0:=hq
  replace h2:bits .and .u64 0 2047 = 0:=h2
  go_enter Tryz.func160,Tryz.ntmps160
  go_wp2_with fail
  go_loop [5,6] (fun y i=>∃ m' f k:Nat,y = .int .u64 m' ∧ i = .int .i64 (-1074 + (k:Int)) ∧ StripAt s m' f k) (fun y _=>(intOf y).toNat)
  case atStart=>exact ⟨s,64,0,rfl,rfl,HS.out⟩
  case round =>
   obtain ⟨m',f,k,rfl,rfl,hst⟩:=hrel
   have hk:k ≤ 64:=hst.2.2.1
   have hm:0 < m':=hst.2.1
   have ha1:=and1 m' hst.2.2.2.2.2
   by_cases he:m' % 2 = 0
   ·obtain ⟨f',h'⟩:=hst.step he
    have H':=Lib.hid h'
    replace ha1:bits .and .u64 (m':Int) 1 = 0:=by rw [ha1,he];rfl
    clear he hst h'
    go_wp2
    go_round
    case rel=>exact ⟨m' / 2,f',k + 1,by go_num,by go_num,H'.out⟩
    case measure=>simp [intOf];omega
   ·have he1:m' % 2 = 1:=by omega
    have H':=Lib.hid (hst.stop he1)
    replace ha1:bits .and .u64 (m':Int) 1 = 1:=by rw [ha1,he1];rfl
    clear he he1 hst
    go_wp2
    go_ret2
    exact ⟨by rw [H'.out.1,H'.out.2];rfl,rfl⟩
 ·obtain ⟨rfl,hp0⟩:=hp hx0
  have hd:(((x:Nat):Int) == 0) = false:=beq_eq_false_iff_ne.2 (by omega)
  have HS:=Lib.hid (StripAt.start (s:=4503599627370496 + m) (by omega) (by omega))
  have HP:=Lib.hid hp0
  have hx1:1 ≤ x:=by omega
  clear hz hp hs0 hP hp0 e1 hx0
  generalize 4503599627370496 + m = s at *
  go_enter Tryz.func160,Tryz.ntmps160
  go_wp2_with fail
  go_loop [5,6] (fun y i=>∃ m' f k:Nat,y = .int .u64 m' ∧ i = .int .i64 ((x:Int) - 1075 + (k:Int)) ∧ StripAt s m' f k) (fun y _=>(intOf y).toNat)
  case atStart=>exact ⟨s,64,0,rfl,by simp,HS.out⟩
  case round =>
   obtain ⟨m',f,k,rfl,rfl,hst⟩:=hrel
   have hk:k ≤ 64:=hst.2.2.1
   have hm:0 < m':=hst.2.1
   have ha1:=and1 m' hst.2.2.2.2.2
   by_cases he:m' % 2 = 0
   ·obtain ⟨f',h'⟩:=hst.step he
    have H':=Lib.hid h'
    replace ha1:bits .and .u64 (m':Int) 1 = 0:=by rw [ha1,he];rfl
    clear he hst h'
    go_wp2
    go_round
    case rel=>exact ⟨m' / 2,f',k + 1,by go_num,by go_num,H'.out⟩
    case measure=>simp [intOf];omega
   ·have he1:m' % 2 = 1:=by omega
    have H':=Lib.hid (hst.stop he1)
    replace ha1:bits .and .u64 (m':Int) 1 = 1:=by rw [ha1,he1];rfl
    clear he he1 hst
    go_wp2
    go_ret2
    exact ⟨by rw [H'.out.1,H'.out.2,HP.out];rfl,rfl⟩
end Go.Proofs.YtmfpmandkhiknaaGreatDoor.flt
namespace Go.Proofs.YtmfpmandkhiknaaGreatDoor.flt
open Go Ieee Go.RowKit
abbrev INF:Nat:=9218868437227405312
theorem pfin (a:Nat) (h:a < INF):fin a ∧ rung a = a ∧ sgn a = false:=by
 unfold fin rung sgn
 unfold INF at h
 refine ⟨by omega,by omega,decide_eq_false (by omega)⟩
theorem pread (a:Nat) (h:a < INF):double.read a = .number false (sg a) (-1074 + (pl a:Nat)):=by
 have:=read_fin a (pfin a h).1
 rwa [(pfin a h).2.1,(pfin a h).2.2] at this
theorem pval (a:Nat) (h:a < INF):val a = (mg a:Int):=by
 unfold val
 rw [(pfin a h).2.1,(pfin a h).2.2]
 rfl
theorem mg_def (r:Nat):sg r * 2 ^ pl r = mg r:=rfl
theorem near_mg (s:Bool) (r:Nat) (h:r < INF):double.nearest s (mg r) (-1074) = wd s r:=by
 have:=nearest_unit s (mg r)
 rw [nr_mg r h] at this
 exact this
theorem mul_exact (a b r:Nat) (ha:a < INF) (hb:b < INF) (hr:r < INF) (h:mg a * mg b = mg r * 2 ^ PP):fop .mul a b = some r:=by
 show ((double.read a).product (double.read b)).map double.write = some r
 rw [pread a ha,pread b hb]
 simp only [Datum.product,Option.map_some,Format.write,Bool.xor_false]
 congr 1
 have h1:double.nearest false (sg a * sg b * 2 ^ (pl a + pl b)) (-2148) = double.nearest false (sg a * sg b) (-1074 + (pl a:Int) + (-1074 + (pl b:Int))):=by
  rw [nearest_scale];congr 1;omega
 have h2:sg a * sg b * 2 ^ (pl a + pl b) = mg r * 2 ^ PP:=by
  rw [← h,← mg_def a,← mg_def b,Nat.pow_add]
  generalize sg a = x;generalize sg b = y;generalize 2 ^ pl a = u;generalize 2 ^ pl b = v
  ac_rfl
 rw [← h1,h2,nearest_scale,show (-2148:Int) + (PP:Int) = -1074 by rw [hPP];rfl,near_mg false r hr]
 rfl
theorem pow52:(2:Nat) ^ 52 = 4503599627370496:=by decide
theorem log52:(4503599627370496:Nat).log2 = 52:=by decide +kernel
theorem quo_pow (a d:Nat) (ha:fin a) (hd:d < INF) (hs:sg d = 4503599627370496) :
  fop .quo a d = some (double.nearest (sgn a) (sg (rung a)) ((pl (rung a):Int) - (pl d:Int) - 52)):=by
 show ((double.read a).quotient 54 (double.read d)).map double.write = _
 rw [read_fin a ha,pread d hd,hs]
 have hm:=sg_lt (rung a)
 generalize sg (rung a) = m at *
 generalize pl (rung a) = i at *
 generalize pl d = j at *
 simp only [Datum.quotient,show ¬ (4503599627370496:Nat) = 0 by omega,if_false,Option.map_some,Format.write,Bool.xor_false]
 congr 1
 have hl:m.log2 ≤ 52:=by
  by_cases h0:m = 0
  ·subst h0;decide
  ·exact Nat.le_of_lt_succ ((Nat.log2_lt h0).2 hm)
 obtain ⟨t,ht⟩:∃ t,54 + (4503599627370496:Nat).log2 - m.log2 = 52 + t:=⟨54 - m.log2,by rw [log52];omega⟩
 rw [ht,Nat.shiftLeft_eq]
 have e1:m * 2 ^ (52 + t) = m * 2 ^ t * 4503599627370496:=by rw [Nat.pow_add,pow52];ac_rfl
 rw [e1,Nat.mul_div_cancel _ (by omega),Nat.mul_mod_left]
 have e2:2 * (m * 2 ^ t) + ((0:Nat) != 0).toNat = m * 2 ^ (t + 1):=by
  show 2 * (m * 2 ^ t) + 0 = m * 2 ^ (t + 1)
  rw [Nat.pow_succ]
  generalize 2 ^ t = u
  rw [Nat.add_zero,Nat.mul_comm u 2,Nat.mul_left_comm]
 rw [e2,nearest_scale]
 congr 1
 omega
theorem quo_exact (a d r:Nat) (ha:fin a) (hd:d < INF) (hs:sg d = 4503599627370496) (hr:r < INF) (h:mg (rung a) * 2 ^ PP = mg r * 2 ^ (52 + pl d)):fop .quo a d = some (wd (sgn a) r):=by
 rw [quo_pow a d ha hd hs]
 congr 1
 have h1:double.nearest (sgn a) (sg (rung a)) ((pl (rung a):Int) - (pl d:Int) - 52) = double.nearest (sgn a) (mg (rung a) * 2 ^ PP) (-(pl d:Int) - 52 - (PP:Int)):=by
  rw [nearest_scale,← mg_def,nearest_scale];congr 1;omega
 rw [h1,h,nearest_scale,show -(pl d:Int) - 52 - (PP:Int) + ((52 + pl d:Nat):Int) = -1074 by rw [hPP];omega,near_mg _ r hr]
abbrev two:Nat:=4611686018427387904
theorem two_ok:two < INF ∧ sg two = 4503599627370496 ∧ pl two = 1023:=by decide
theorem mg_small (q:Nat) (h:q < 9007199254740992):mg q = q:=by
 unfold mg sg pl
 by_cases h1:q < 4503599627370496
 ·rw [if_pos h1,Nat.div_eq_of_lt h1];simp
 ·rw [if_neg h1,show q / 4503599627370496 - 1 = 0 by omega];omega
theorem cut_one (m:Nat):2 * Toward.even.cut false m 1 = m ∨ 2 * Toward.even.cut false m 1 = m + 1 ∨ 2 * Toward.even.cut false m 1 + 1 = m:=by
 unfold Toward.cut
 simp only [show min 1 (m.log2 + 2) = 1 by omega,Nat.one_shiftLeft,Nat.pow_one]
 generalize hb:(decide (2 < 2 * (m % 2)) || 2 == 2 * (m % 2) && m / 2 % 2 == 1) = b
 by_cases h:m % 2 = 0
 ·rw [h] at hb
  simp at hb
  subst hb
  simp
  omega
 ·cases b <;> simp <;> omega
theorem wd_false (r:Nat):wd false r = r:=rfl
theorem half_low (m:Nat) (hs:m < 9007199254740992):double.nearest false m (-1075) = Toward.even.cut false m 1:=by
 by_cases h0:m = 0
 ·subst h0;decide +kernel
 ·have hl:m.log2 ≤ 52:=Nat.le_of_lt_succ ((Nat.log2_lt h0).2 hs)
  have hc:=cut_one m
  unfold Format.nearest
  rw [if_neg h0]
  simp only [e2,e3,e4,e5,Format.word]
  have hmx:max (-1075 + (m.log2:Int) - ((52:Nat):Int)) (-1074) = -1074:=by omega
  rw [hmx]
  have k1:((-1075:Int) - -1074).toNat = 0:=by decide
  have k2:((-1074:Int) - -1075).toNat = 1:=by decide
  have k3:((-1074:Int) - -1074).toNat = 0:=by decide
  rw [k1,k2,k3,Nat.shiftLeft_zero,Nat.zero_mul,Nat.zero_add]
  generalize Toward.even.cut false m 1 = q at *
  simp only [Bool.false_eq_true,if_false]
  omega
theorem half_gen (a d:Nat) (ha:a < INF) (hd:d < INF) (hs':sg d = 4503599627370496) (hp':pl d = 1023):∃ q,q < INF ∧ fop .quo a d = some q ∧ (2 * mg q = mg a ∨ 2 * mg q = mg a + 1 ∨ 2 * mg q + 1 = mg a):=by
 have hq:=quo_pow a d (pfin a ha).1 hd hs'
 rw [(pfin a ha).2.1,(pfin a ha).2.2,hp'] at hq
 have hs:=sg_lt a
 have hpl:pl a ≤ 2045:=by unfold pl;unfold INF at ha;omega
 have hm0:=mg_def a
 generalize sg a = m at *
 generalize pl a = i at *
 by_cases hp:i = 0
 ·subst hp
  rw [Nat.pow_zero,Nat.mul_one] at hm0
  rw [← hm0]
  have hc:=cut_one m
  have e:(((0:Nat):Int) - ((1023:Nat):Int) - 52) = -1075:=by omega
  rw [e,half_low m hs] at hq
  generalize Toward.even.cut false m 1 = q at *
  have hq2:q < 9007199254740992:=by omega
  exact ⟨q,by unfold INF;omega,hq,by rw [mg_small q hq2];exact hc⟩
 ·have h1:((i:Int) - ((1023:Nat):Int) - 52) = -1074 + ((i - 1:Nat):Int):=by omega
  rw [h1,nearest_up,wd_false] at hq
  have hr:=nr_rep m (i - 1) hs (by omega)
  generalize nr (m * 2 ^ (i - 1)) = q at *
  refine ⟨q,hr.1,hq,.inl ?_⟩
  rw [hr.2,← hm0]
  have:2 ^ i = 2 ^ (i - 1) * 2:=by rw [← Nat.pow_succ];congr 1;omega
  rw [this]
  generalize 2 ^ (i - 1) = u
  rw [Nat.mul_comm u 2,Nat.mul_left_comm]
theorem half (a:Nat) (ha:a < INF):∃ q,q < INF ∧ fop .quo a two = some q ∧ (2 * mg q = mg a ∨ 2 * mg q = mg a + 1 ∨ 2 * mg q + 1 = mg a):=
 half_gen a two ha two_ok.1 two_ok.2.1 two_ok.2.2
theorem half_even (a r:Nat) (ha:a < INF) (h:mg a = 2 * mg r):fop .quo a two = some r:=by
 obtain ⟨q,h1,h2,h3⟩:=half a ha
 rw [h2]
 congr 1
 apply mg_inj
 omega
theorem sub_exact (a b r:Nat) (ha:a < INF) (hb:b < INF) (hr:r < INF) (h:mg a = mg b + mg r):fop .sub a b = some r:=by
 rw [sub_fin a b (pfin a ha).1 (pfin b hb).1,pval a ha,pval b hb,(pfin a ha).2.2,h]
 congr 1
 have e:((mg b + mg r:Nat):Int) - (mg b:Int) = (mg r:Int):=by omega
 rw [e]
 unfold rn
 rw [Int.natAbs_natCast,nr_mg r hr]
 have:(if (mg r:Int) = 0 then (false && !sgn b) else decide ((mg r:Int) < 0)) = false:=by
  split
  ·rfl
  ·exact decide_eq_false (by omega)
 rw [this]
 rfl
@[irreducible] def TX:Nat:=2098
@[irreducible] def PX:Nat:=2045
theorem hPX:PX = 2045:=by unfold PX;rfl
theorem hTX:TX = 53 + PX:=by unfold TX PX;rfl
theorem mg_top (r:Nat) (h:r < INF):mg r < 2 ^ TX:=by
 have h1:=sg_lt r
 have h2:pl r ≤ 2045:=by unfold pl;unfold INF at h;omega
 rw [← mg_def,hTX,Nat.pow_add]
 have h3:2 ^ pl r ≤ 2 ^ PX:=Nat.pow_le_pow_right (by omega) (by rw [hPX];exact h2)
 have h4:0 < 2 ^ pl r:=Nat.two_pow_pos _
 generalize 2 ^ PX = u at *
 generalize 2 ^ pl r = v at *
 show sg r * v < 9007199254740992 * u
 exact Nat.lt_of_lt_of_le (Nat.mul_lt_mul_of_pos_right h1 h4) (Nat.mul_le_mul_left _ h3)
theorem rep_any (m p:Nat) (hm:m < 9007199254740992) (h:m * 2 ^ p < 2 ^ TX):∃ r,r < INF ∧ mg r = m * 2 ^ p:=by
 by_cases hp:p ≤ 2045
 ·exact rep p m hm hp
 ·obtain ⟨d,rfl⟩:∃ d,p = d + PX:=⟨p - PX,by rw [hPX];omega⟩
  rw [Nat.pow_add,← Nat.mul_assoc] at h ⊢
  have hm2:m * 2 ^ d < 9007199254740992:=by
   rw [hTX,Nat.pow_add] at h
   have:=Nat.lt_of_mul_lt_mul_right h
   exact this
  exact rep PX _ hm2 (by rw [hPX];omega)
theorem mg_le_iff (r q:Nat):mg r ≤ mg q ↔ r ≤ q:=by have:=mg_lt_iff q r;omega
theorem pl_mono {r q:Nat} (h:r ≤ q):pl r ≤ pl q:=by unfold pl;omega
theorem near_sub (a b:Nat) (ha:a < INF) (hb:b < INF) (h1:mg b ≤ mg a) (h2:mg a ≤ 2 * mg b):∃ r,r < INF ∧ mg a = mg b + mg r:=by
 have hpl:=pl_mono ((mg_le_iff b a).1 h1)
 have hs:=sg_lt b
 have ht:=mg_top a ha
 have ea:mg a = sg a * 2 ^ (pl a - pl b) * 2 ^ pl b:=by
  rw [← mg_def a,Nat.mul_assoc,← Nat.pow_add];congr 2;omega
 have eb:mg b = sg b * 2 ^ pl b:=rfl
 have hp:=Nat.two_pow_pos (pl b)
 generalize sg a * 2 ^ (pl a - pl b) = A at *
 rw [ea,eb] at h1 h2
 rw [← Nat.mul_assoc] at h2
 have h3:=Nat.le_of_mul_le_mul_right h1 hp
 have h4:=Nat.le_of_mul_le_mul_right h2 hp
 have h5:(A - sg b) * 2 ^ pl b ≤ mg a:=by rw [ea];exact Nat.mul_le_mul_right _ (Nat.sub_le _ _)
 obtain ⟨r,hr,e⟩:=rep_any (A - sg b) (pl b) (by omega) (by omega)
 refine ⟨r,hr,?_⟩
 rw [e,ea,eb,← Nat.add_mul]
 congr 1
 omega
def nrm (a:Nat):Nat:=if a < 4503599627370496 then nr (a * 2 ^ 52) else a
def nc (a:Nat):Nat:=if a < 4503599627370496 then 52 else 0
theorem nrm_ok (a:Nat) (h0:0 < a) (h:a < INF):4503599627370496 ≤ nrm a ∧ nrm a < INF ∧ mg (nrm a) = mg a * 2 ^ nc a:=by
 unfold nrm nc
 by_cases h1:a < 4503599627370496
 ·rw [if_pos h1,if_pos h1,mg_small a (by omega)]
  have hr:=nr_rep a 52 (by omega) (by omega)
  refine ⟨?_,hr.1,hr.2⟩
  have h2:mg 4503599627370495 < mg (nr (a * 2 ^ 52)):=by
   rw [hr.2,mg_small _ (by omega),pow52];omega
  have:=(mg_lt_iff _ _).1 h2
  omega
 ·rw [if_neg h1,if_neg h1,Nat.pow_zero,Nat.mul_one]
  exact ⟨by omega,h,rfl⟩
theorem sg_norm (a:Nat) (h:4503599627370496 ≤ a):sg a = 4503599627370496 + a % 4503599627370496:=by unfold sg;rw [if_neg (by omega)]
theorem mg_field (F E:Nat) (hF:F < 4503599627370496) (hE:1 ≤ E):mg (F + E * 4503599627370496) = (4503599627370496 + F) * 2 ^ (E - 1):=by
 unfold mg sg pl
 rw [if_neg (by omega),show (F + E * 4503599627370496) % 4503599627370496 = F by omega,show (F + E * 4503599627370496) / 4503599627370496 - 1 = E - 1 by omega]
def xE (a:Nat) (k:Int):Int:=k - (nc a:Int) + (nrm a / 4503599627370496:Nat) - 1023
abbrev c53:Nat:=4368491638549381120
abbrev one:Nat:=4607182418800017408
theorem c53_ok:c53 < INF ∧ sg c53 = 4503599627370496 ∧ pl c53 = 969:=by decide
theorem one_ok:one < INF ∧ sg one = 4503599627370496 ∧ pl one = 1022:=by decide
theorem mg_one:mg one = 2 ^ PP:=by
 have e:52 + pl one = PP:=by rw [one_ok.2.2,hPP]
 rw [← mg_def,one_ok.2.1,← pow52,← Nat.pow_add,e]
theorem mg_c53:mg c53 * 2 ^ 53 = 2 ^ PP:=by
 have e:52 + pl c53 + 53 = PP:=by rw [c53_ok.2.2,hPP]
 rw [← mg_def,c53_ok.2.1,← pow52,← Nat.pow_add,← Nat.pow_add,e]
def ldx (a:Nat) (k:Int):Nat:=
 if xE a k < -1075 then 0 else if 1023 < xE a k then INF
 else if xE a k < -1022 then (fop .mul c53 (nrm a % 4503599627370496 + (xE a k + 1076).toNat * 4503599627370496)).getD 0
 else nrm a % 4503599627370496 + (xE a k + 1023).toNat * 4503599627370496
theorem one_mul (x:Nat) (h:x < INF):fop .mul one x = some x:=by
 refine mul_exact one x x one_ok.1 h h ?_
 rw [mg_one,Nat.mul_comm]
theorem near_le (m:Nat) (p:Int):double.nearest false m p ≤ INF:=by
 unfold Format.nearest
 split
 ·exact Nat.zero_le _
 ·simp only [e2,e3,e4,e5,Format.word,Bool.false_eq_true,if_false]
  exact Nat.min_le_right _ _
theorem mul_some (a b:Nat) (ha:a < INF) (hb:b < INF):∃ r,fop .mul a b = some r ∧ r ≤ INF:=by
 refine ⟨double.nearest false (sg a * sg b) (-1074 + (pl a:Int) + (-1074 + (pl b:Int))),?_,near_le _ _⟩
 show ((double.read a).product (double.read b)).map double.write = _
 rw [pread a ha,pread b hb]
 rfl
theorem ldx_le (a:Nat) (k:Int) (h0:0 < a) (h:a < INF):ldx a k ≤ INF:=by
 have hn:=nrm_ok a h0 h
 unfold ldx
 split
 ·unfold INF;omega
 ·split
  ·exact Nat.le_refl _
  ·split
   ·obtain ⟨r,h1,h2⟩:=mul_some c53 (nrm a % 4503599627370496 + (xE a k + 1076).toNat * 4503599627370496) c53_ok.1 (by unfold INF;omega)
    rw [h1];exact h2
   ·unfold INF;omega
def Scaled (a:Nat) (k:Int) (r:Nat):Prop:=mg a * 2 ^ k.toNat = mg r * 2 ^ (-k).toNat
theorem pow_cancel {x y i j:Nat} (hij:i ≤ j) (h:x * 2 ^ j = y * 2 ^ i):x * 2 ^ (j - i) = y:=by
 have hp:=Nat.two_pow_pos i
 have:x * 2 ^ (j - i) * 2 ^ i = y * 2 ^ i:=by rw [Nat.mul_assoc,← Nat.pow_add,Nat.sub_add_cancel hij,h]
 exact Nat.eq_of_mul_eq_mul_right hp this
theorem ldx_ok (a:Nat) (k:Int) (r:Nat) (h0:0 < a) (h:a < INF) (hr:r < INF) (hs:Scaled a k r):ldx a k = r:=by
 obtain ⟨hn1,hn2,hn3⟩:=nrm_ok a h0 h
 have hS:=sg_norm (nrm a) hn1
 have hmd:=mg_def (nrm a)
 have hS2:=sg_lt (nrm a)
 have hE1:pl (nrm a) + 1 = nrm a / 4503599627370496:=by unfold pl;omega
 unfold Scaled at hs
 unfold ldx
 have hx:xE a k = k - (nc a:Int) + (pl (nrm a):Int) - 1022:=by unfold xE;rw [← hE1];omega
 rw [hx]
 rw [← hmd] at hn3
 have hF:nrm a % 4503599627370496 < 4503599627370496:=Nat.mod_lt _ (by omega)
 have htop:=mg_top r hr
 clear hmd hx hE1 hn1 hn2
 generalize nrm a % 4503599627370496 = F at *
 generalize pl (nrm a) = Q at *
 generalize nc a = c at *
 rw [hS] at hn3 hS2
 clear hS
 -- the one equation: (2^52 + F) * 2^(Q + k+) = mg r * 2^(k- + c)
 have key:(4503599627370496 + F) * 2 ^ (Q + k.toNat) = mg r * 2 ^ ((-k).toNat + c):=by
  rw [Nat.pow_add,← Nat.mul_assoc,hn3,Nat.pow_add,← Nat.mul_assoc,← hs]
  generalize 2 ^ c = u;generalize 2 ^ k.toNat = v
  ac_rfl
 clear hn3 hs
 by_cases hc : -1022 ≤ k - (c:Int) + (Q:Int) - 1022
 ·rw [if_neg (by omega)]
  have k1:=pow_cancel (by omega:(-k).toNat + c ≤ Q + k.toNat) key
  obtain ⟨j,hj⟩:∃ j,Q + k.toNat - ((-k).toNat + c) = j:=⟨_,rfl⟩
  rw [hj] at k1
  have hjj:k - (c:Int) + (Q:Int) - 1022 = (j:Int) - 1022:=by omega
  rw [hjj]
  by_cases hb:1023 < (j:Int) - 1022
  ·exfalso
   have e3:2 ^ TX ≤ mg r:=by
    rw [← k1]
    have e1:TX = 52 + (PX + 1):=by rw [hTX];omega
    have e2:PX + 1 ≤ j:=by rw [hPX];omega
    rw [e1,Nat.pow_add,pow52]
    exact Nat.mul_le_mul (by omega) (Nat.pow_le_pow_right (by omega) e2)
   omega
  ·rw [if_neg hb,if_neg (by omega)]
   have e1:((j:Int) - 1022 + 1023).toNat = j + 1:=by omega
   rw [e1]
   apply mg_inj
   rw [mg_field F (j + 1) hF (by omega),Nat.add_sub_cancel]
   exact k1
 ·have k1:=pow_cancel (by omega:Q + k.toNat ≤ (-k).toNat + c) key.symm
  obtain ⟨j,hj⟩:∃ j,(-k).toNat + c - (Q + k.toNat) = j:=⟨_,rfl⟩
  rw [hj] at k1
  have hjj:k - (c:Int) + (Q:Int) - 1022 = -(j:Int) - 1022:=by omega
  rw [hjj]
  have hj1:1 ≤ j:=by omega
  have hr0:0 < mg r:=by
   rcases Nat.eq_zero_or_pos (mg r) with h1 | h1
   ·rw [h1,Nat.zero_mul] at k1;omega
   ·exact h1
  have hj2:j < 53:=by
   have:2 ^ j < 2 ^ 53:=Nat.lt_of_le_of_lt (Nat.le_mul_of_pos_left _ hr0) (by rw [k1];exact hS2)
   exact (Nat.pow_lt_pow_iff_right (by omega)).1 this
  rw [if_neg (by omega),if_neg (by omega),if_pos (by omega)]
  have e1:(-(j:Int) - 1022 + 1076).toNat = 54 - j:=by omega
  rw [e1]
  have hx2:F + (54 - j) * 4503599627370496 < INF:=by unfold INF;omega
  have:=mul_exact c53 (F + (54 - j) * 4503599627370496) r c53_ok.1 hx2 hr (by
   rw [mg_field F (54 - j) hF (by omega),← k1,← mg_c53]
   have e2:2 ^ 53 = 2 ^ j * 2 ^ (54 - j - 1):=by rw [← Nat.pow_add];congr 1;omega
   rw [e2]
   generalize mg c53 = x;generalize mg r = y;generalize 2 ^ j = u;generalize 2 ^ (54 - j - 1) = v
   ac_rfl)
  rw [this]
  rfl
theorem lt0 (a:Nat) (h:a < INF):(double.order a 0 == some .lt) = false:=by
 rw [order_fin a 0 (pfin a h).1 (pfin 0 (by unfold INF;omega)).1,pval a h,pval 0 (by unfold INF;omega),mg_zero]
 have:¬ compare (mg a:Int) ((0:Nat):Int) = .lt:=by
  intro hc
  have:=(cmp_ge (mg a:Int) ((0:Nat):Int)).2 (by omega)
  rw [hc] at this
  simp at this
 simpa using this
theorem eq0 (a:Nat) (h0:0 < a) (h:a < INF):eqB a 0 = false:=by
 rw [eqB_fin a 0 (pfin a h).1 (pfin 0 (by unfold INF;omega)).1,pval a h,pval 0 (by unfold INF;omega)]
 apply decide_eq_false
 have:=mg_lt h0
 omega
theorem ltB_pos (a b:Nat) (ha:a < INF) (hb:b < INF):(double.order a b == some .lt) = decide (a < b):=by
 rw [order_fin a b (pfin a ha).1 (pfin b hb).1,pval a ha,pval b hb,Bool.eq_iff_iff,decide_eq_true_iff,← mg_lt_iff]
 simp only [beq_iff_eq,Option.some.injEq]
 simp only [compare,compareOfLessAndEq]
 split
 ·simp;omega
 ·split <;> simp <;> omega
theorem geB_pos (a b:Nat) (ha:a < INF) (hb:b < INF):geB a b = decide (b ≤ a):=by
 rw [geB_fin a b (pfin a ha).1 (pfin b hb).1,pval a ha,pval b hb,Bool.eq_iff_iff,decide_eq_true_iff,decide_eq_true_iff,← mg_le_iff]
 omega
def modR (x y:Nat):Nat:=nr (mg x % mg y)
theorem mg_pos (y:Nat) (h:0 < y):0 < mg y:=by have:=mg_lt h;omega
theorem modR_ok (x y:Nat) (hx:x < INF) (hy:y < INF) (h0:0 < y):modR x y < INF ∧ mg (modR x y) = mg x % mg y:=by
 have key:∃ r,r < INF ∧ mg r = mg x % mg y:=by
  by_cases h:x < y
  ·exact ⟨x,hx,(Nat.mod_eq_of_lt (mg_lt h)).symm⟩
  ·have hpl:=pl_mono (Nat.le_of_not_lt h)
   have ex:mg x = sg x * 2 ^ (pl x - pl y) * 2 ^ pl y:=by
    rw [← mg_def x,Nat.mul_assoc,← Nat.pow_add];congr 2;omega
   have hlt:mg x % mg y < mg y:=Nat.mod_lt _ (mg_pos y h0)
   have ht:=mg_top y hy
   have hs:=sg_lt y
   have hs0:0 < sg y:=by
    rcases Nat.eq_zero_or_pos (sg y) with h1 | h1
    ·have:=mg_pos y h0;rw [← mg_def,h1,Nat.zero_mul] at this;omega
    ·exact h1
   have em:mg x % mg y = (sg x * 2 ^ (pl x - pl y) % sg y) * 2 ^ pl y:=by
    rw [ex,← mg_def y,Nat.mul_mod_mul_right]
   rw [em] at hlt ⊢
   have hm:sg x * 2 ^ (pl x - pl y) % sg y < sg y:=Nat.mod_lt _ hs0
   obtain ⟨r,hr,e⟩:=rep_any (sg x * 2 ^ (pl x - pl y) % sg y) (pl y) (by omega) (by omega)
   exact ⟨r,hr,e⟩
 obtain ⟨r,hr,e⟩:=key
 unfold modR
 rw [← e,nr_mg r hr]
 exact ⟨hr,rfl⟩
def frF (a:Nat):Nat:=nrm a % 4503599627370496 + 1022 * 4503599627370496
def frE (a:Nat):Int:=(nrm a / 4503599627370496:Nat) - 1022 - (nc a:Int)
def nS (a:Nat):Nat:=4503599627370496 + nrm a % 4503599627370496
def nU (a:Nat):Nat:=pl (nrm a) + 52 - nc a
theorem nf_ok (a:Nat) (h0:0 < a) (h:a < INF):mg a * 2 ^ 52 = nS a * 2 ^ nU a ∧ frE a = (nU a:Int) - 1073 ∧ nU a ≤ 2097:=by
 obtain ⟨h1,h2,h3⟩:=nrm_ok a h0 h
 have hc:nc a ≤ 52:=by unfold nc;split <;> omega
 have hp:nrm a / 4503599627370496 = pl (nrm a) + 1:=by unfold pl;omega
 have hl:pl (nrm a) ≤ 2045:=by unfold pl;unfold INF at h2;omega
 refine ⟨?_,?_,?_⟩
 ·unfold nS nU
  rw [← sg_norm _ h1]
  have e:2 ^ 52 = 2 ^ nc a * 2 ^ (52 - nc a):=by rw [← Nat.pow_add];congr 1;omega
  rw [e,← Nat.mul_assoc,← h3,← mg_def,Nat.mul_assoc,← Nat.pow_add]
  congr 2
  omega
 ·unfold frE nU;rw [hp];omega
 ·unfold nU;omega
theorem nS_bd (a:Nat):4503599627370496 ≤ nS a ∧ nS a < 9007199254740992:=by unfold nS;omega
theorem frF_lt (r y:Nat):frF r < frF y ↔ nS r < nS y:=by unfold frF nS;omega
theorem frF_inf (r:Nat):frF r < INF:=by unfold frF INF;omega
def stepK (r y:Nat):Int:=(if frF r < frF y then frE r - 1 else frE r) - frE y
theorem up_pow {s t i j:Nat} (hs:s < 9007199254740992) (ht:4503599627370496 ≤ t) (hij:i + 1 ≤ j):s * 2 ^ i < t * 2 ^ j:=by
 have h1:s * 2 ^ i < 9007199254740992 * 2 ^ i:=Nat.mul_lt_mul_of_pos_right hs (Nat.two_pow_pos _)
 have h2:9007199254740992 * 2 ^ i = 4503599627370496 * 2 ^ (i + 1):=by rw [Nat.pow_succ];omega
 have h3:4503599627370496 * 2 ^ (i + 1) ≤ t * 2 ^ j:=Nat.mul_le_mul ht (Nat.pow_le_pow_right (by omega) hij)
 omega
theorem step_lo (my mr Sy Sr Uy Ur:Nat) (n1:mr * 2 ^ 52 = Sr * 2 ^ Ur) (m1:my * 2 ^ 52 = Sy * 2 ^ Uy) (b1:4503599627370496 ≤ Sr) (b2:Sy < 9007199254740992)
  (hle:my * 2 ^ 52 ≤ mr * 2 ^ 52) (hS:Sr < Sy):∃ k,Ur = Uy + k + 1 ∧ my * 2 ^ k ≤ mr ∧ mr ≤ 2 * (my * 2 ^ k):=by
 have h52:0 < 2 ^ 52:=by decide
 have hU:Uy + 1 ≤ Ur:=by
  rcases Nat.lt_or_ge Uy Ur with h1 | h1
  ·exact h1
  ·exfalso
   have h2:Sr * 2 ^ Ur < Sy * 2 ^ Ur:=Nat.mul_lt_mul_of_pos_right hS (Nat.two_pow_pos _)
   have h3:Sy * 2 ^ Ur ≤ Sy * 2 ^ Uy:=Nat.mul_le_mul_left _ (Nat.pow_le_pow_right (by omega) h1)
   rw [n1,m1] at hle
   exact Nat.lt_irrefl _ (Nat.lt_of_lt_of_le h2 (Nat.le_trans h3 hle))
 generalize 2 ^ 52 = c at *
 obtain ⟨k,rfl⟩:∃ k,Ur = Uy + k + 1:=⟨Ur - Uy - 1,by omega⟩
 refine ⟨k,rfl,Nat.le_of_mul_le_mul_right (c:=c) ?_ h52,Nat.le_of_mul_le_mul_right (c:=c) ?_ h52⟩
 ·rw [Nat.mul_right_comm,m1,n1,Nat.mul_assoc,← Nat.pow_add,Nat.pow_succ]
  generalize 2 ^ (Uy + k) = u
  rw [Nat.mul_comm u 2,← Nat.mul_assoc]
  exact Nat.mul_le_mul_right _ (by omega)
 ·rw [Nat.mul_assoc,Nat.mul_right_comm,m1,n1,Nat.mul_assoc,← Nat.pow_add,Nat.pow_succ]
  generalize 2 ^ (Uy + k) = u
  rw [Nat.mul_comm u 2,Nat.mul_left_comm]
  exact Nat.mul_le_mul_left _ (Nat.mul_le_mul_right _ (by omega))
theorem step_hi (my mr Sy Sr Uy Ur:Nat) (n1:mr * 2 ^ 52 = Sr * 2 ^ Ur) (m1:my * 2 ^ 52 = Sy * 2 ^ Uy) (b1:Sr < 9007199254740992) (b2:4503599627370496 ≤ Sy)
  (hle:my * 2 ^ 52 ≤ mr * 2 ^ 52) (hS:Sy ≤ Sr):∃ k,Ur = Uy + k ∧ my * 2 ^ k ≤ mr ∧ mr ≤ 2 * (my * 2 ^ k):=by
 have h52:0 < 2 ^ 52:=by decide
 have hU:Uy ≤ Ur:=by
  rcases Nat.lt_or_ge Ur Uy with h1 | h1
  ·exfalso
   have h2:=up_pow b1 b2 h1
   rw [n1,m1] at hle
   exact Nat.lt_irrefl _ (Nat.lt_of_lt_of_le h2 hle)
  ·exact h1
 generalize 2 ^ 52 = c at *
 obtain ⟨k,rfl⟩:∃ k,Ur = Uy + k:=⟨Ur - Uy,by omega⟩
 refine ⟨k,rfl,Nat.le_of_mul_le_mul_right (c:=c) ?_ h52,Nat.le_of_mul_le_mul_right (c:=c) ?_ h52⟩
 ·rw [Nat.mul_right_comm,m1,n1,Nat.mul_assoc,← Nat.pow_add]
  exact Nat.mul_le_mul_right _ hS
 ·rw [Nat.mul_assoc,Nat.mul_right_comm,m1,n1,Nat.mul_assoc,← Nat.pow_add,← Nat.mul_assoc]
  exact Nat.mul_le_mul_right _ (by omega)
theorem stepK_ok (r y:Nat) (hr:r < INF) (h0:0 < y) (hy:y ≤ r):∃ k:Nat,stepK r y = (k:Int) ∧ k ≤ 5000 ∧ mg y * 2 ^ k ≤ mg r ∧ mg r ≤ 2 * (mg y * 2 ^ k):=by
 have hyI:y < INF:=Nat.lt_of_le_of_lt hy hr
 obtain ⟨n1,n2,n3⟩:=nf_ok r (Nat.lt_of_lt_of_le h0 hy) hr
 obtain ⟨m1,m2,m3⟩:=nf_ok y h0 hyI
 have b1:=nS_bd r
 have b2:=nS_bd y
 have hle:mg y * 2 ^ 52 ≤ mg r * 2 ^ 52:=Nat.mul_le_mul_right _ ((mg_le_iff y r).2 hy)
 unfold stepK
 rw [n2,m2]
 by_cases hf:frF r < frF y
 ·obtain ⟨k,e,h1,h2⟩:=step_lo _ _ _ _ _ _ n1 m1 b1.1 b2.2 hle ((frF_lt r y).1 hf)
  rw [if_pos hf]
  clear n1 m1 hle
  exact ⟨k,by omega,by omega,h1,h2⟩
 ·obtain ⟨k,e,h1,h2⟩:=step_hi _ _ _ _ _ _ n1 m1 b1.2 b2.1 hle (Nat.le_of_not_lt (fun h=>hf ((frF_lt r y).2 h)))
  rw [if_neg hf]
  clear n1 m1 hle
  exact ⟨k,by omega,by omega,h1,h2⟩
theorem scaled_up (y t k:Nat) (e:mg t = mg y * 2 ^ k):Scaled y (k:Int) t:=by
 unfold Scaled
 rw [show ((k:Int)).toNat = k from Int.toNat_natCast k,show (-(k:Int)).toNat = 0 by omega,e,Nat.pow_zero,Nat.mul_one]
theorem mod_step (r y:Nat) (hr:r < INF) (h0:0 < y) (hy:y ≤ r):∃ t r',t < INF ∧ r' < INF ∧ ldx y (stepK r y) = t ∧ mg r = mg t + mg r' ∧ mg r' % mg y = mg r % mg y ∧ r' < r ∧ 0 ≤ stepK r y ∧ stepK r y ≤ 5000:=by
 have hyI:y < INF:=Nat.lt_of_le_of_lt hy hr
 obtain ⟨k,hk,hk5,h1,h2⟩:=stepK_ok r y hr h0 hy
 have htop:=mg_top r hr
 have hy0:=mg_pos y h0
 obtain ⟨t,ht,et⟩:=rep_any (sg y) (pl y + k) (sg_lt y) (by rw [Nat.pow_add,← Nat.mul_assoc,mg_def];exact Nat.lt_of_le_of_lt h1 htop)
 rw [Nat.pow_add,← Nat.mul_assoc,mg_def] at et
 have hld:=ldx_ok y (k:Int) t h0 hyI ht (scaled_up y t k et)
 have h3:0 < mg t:=by rw [et];exact Nat.mul_pos hy0 (Nat.two_pow_pos k)
 rw [← et] at h1 h2
 obtain ⟨r',hr',er⟩:=near_sub r t hr ht h1 h2
 clear htop
 refine ⟨t,r',ht,hr',by rw [hk];exact hld,er,?_,?_,by rw [hk];omega,by rw [hk];omega⟩
 ·rw [er,et,Nat.add_comm,Nat.add_mul_mod_self_left]
 ·rw [← mg_lt_iff,er];omega
end Go.Proofs.YtmfpmandkhiknaaGreatDoor.flt
namespace Go.Proofs.YtmfpmandkhiknaaGreatDoor.flt
open Go.RowKit Ieee
set_option maxRecDepth 100000
attribute [local go_sem] run_bits run_frombits
theorem Abs_any (a:Nat) (w:World) (h:a < 18446744073709551616):Calls Tryz.prog 220 #[fv a] w fun e w'=>e = .returned (fv (rung a)) ∧ w = w':=by
 have hb:=bits_size a h
 have hr:a % 9223372036854775808 = rung a:=rfl
 rw [hr] at hb
 generalize rung a = r at *
 clear hr
 go_enter Tryz.func220,Tryz.ntmps220
 go_wp2_with fail
 go_ret
 exact ⟨rfl,rfl⟩
def infB (a:Nat):Bool:=double.order (rung a) 9218868437227405311 == some .gt
theorem IsInf_any (a:Nat) (w:World) (h:a < 18446744073709551616):Calls Tryz.prog 222 #[fv a,.int .i64 0] w fun e w'=>e = .returned (.bool (infB a)) ∧ w = w':=by
 have HA:=Lib.hid (fun W=>Abs_any a W h)
 unfold infB
 generalize rung a = r at *
 go_enter Tryz.func222,Tryz.ntmps222
 go_wp2_with (go_at_call 220;refine (HA.out _).mono ?_;rintro e w1 ⟨rfl,rfl⟩)
 go_ret
 exact ⟨rfl,rfl⟩
theorem IsNaN_any (a:Nat) (w:World):Calls Tryz.prog 223 #[fv a] w fun e w'=>e = .returned (.bool (nanB a)) ∧ w = w':=by
 have h:=neR (a:=a) (c:=a) (b := !nanB a) (order_self a)
 rw [Bool.not_not] at h
 generalize nanB a = b at *
 go_enter Tryz.func223,Tryz.ntmps223
 go_wp2_with fail
 go_ret
 exact ⟨rfl,rfl⟩
theorem gt_false (a M:Nat) (ha:a < INF) (hM:M < INF) (h:a ≤ M):(double.order a M == some .gt) = false:=by
 rw [order_fin _ _ (pfin _ ha).1 (pfin _ hM).1,pval _ ha,pval _ hM]
 have:=(mg_le_iff a M).2 h
 have h3:¬ compare (mg a:Int) (mg M:Int) = .gt:=by
  intro hc
  have:=(cmp_le (mg a:Int) (mg M:Int)).2 (by omega)
  rw [hc] at this
  simp at this
 simpa using h3
theorem infB_fin (a:Nat) (h:fin a):infB a = false:=by
 have h1:rung a < 9218868437227405312:=h.2
 exact gt_false (rung a) 9218868437227405311 h1 (by unfold INF;omega) (by omega)
theorem nan_fin (a:Nat) (h:fin a):nanB a = false:=by unfold nanB;rw [read_fin a h];rfl
theorem p52_ok:(4841369599423283200:Nat) < INF ∧ sg 4841369599423283200 = 4503599627370496 ∧ pl 4841369599423283200 = 1074:=by decide
theorem mg_p52:mg 4841369599423283200 = 4503599627370496 * 2 ^ PP:=by
 rw [← mg_def,p52_ok.2.1,p52_ok.2.2,hPP]
theorem nrm_mul (a:Nat) (h0:0 < a) (h:a < 4503599627370496):fop .mul a 4841369599423283200 = some (nrm a):=by
 have hn:=nrm_ok a h0 (by unfold INF;omega)
 refine mul_exact a _ _ (by unfold INF;omega) p52_ok.1 hn.2.1 ?_
 rw [mg_p52,hn.2.2]
 unfold nc
 rw [if_pos h,pow52,Nat.mul_assoc]
theorem ltR' {a c:Nat} {b:Bool} (h:(double.order a c == some Ordering.lt) = b):(FloatKind.f64.format.order a c == some Ordering.lt) = b:=h
theorem normalize_any (a:Nat) (w:World) (h0:0 < a) (h:a < INF):Calls Tryz.prog 232 #[fv a] w fun e w'=>e = .returned (.tuple #[fv (nrm a),.int .i64 (-(nc a:Int))]) ∧ w = w':=by
 have HA:=Lib.hid (fun W=>Abs_any a W (by unfold INF at h;omega))
 rw [(pfin a h).2.1] at HA
 have hl:=ltB_pos a 4503599627370496 h (by unfold INF;omega)
 by_cases h1:a < 4503599627370496
 ·have hm:=fun W=>run_float_arith (P:=Tryz.prog) W .mul 45 .f64 a 4841369599423283200 (nrm a) (nrm_mul a h0 h1)
  have hc:nc a = 52:=by unfold nc;rw [if_pos h1]
  rw [hc]
  rw [decide_eq_true h1] at hl
  replace hl:=ltR' hl
  generalize nrm a = b at *
  clear h0 h h1 hc
  go_enter Tryz.func232,Tryz.ntmps232
  go_wp2_with (go_at_call 220;refine (HA.out _).mono ?_;rintro e w1 ⟨rfl,rfl⟩)
  go_ret2
  exact ⟨rfl,rfl⟩
 ·have hn:nrm a = a:=by unfold nrm;rw [if_neg h1]
  have hc:nc a = 0:=by unfold nc;rw [if_neg h1]
  rw [hc,hn]
  rw [decide_eq_false h1] at hl
  replace hl:=ltR' hl
  clear h0 h h1 hc hn
  go_enter Tryz.func232,Tryz.ntmps232
  go_wp2_with (go_at_call 220;refine (HA.out _).mono ?_;rintro e w1 ⟨rfl,rfl⟩)
  go_ret2
  exact ⟨rfl,rfl⟩
theorem or_field (F n:Nat) (hF:F < 4503599627370496) (hn:n < 2048):bits .or .u64 (F:Int) ((n * 4503599627370496:Nat):Int) = (F + n * 4503599627370496:Nat):=by
 have e:(BitVec.ofInt 64 (F:Int) ||| BitVec.ofInt 64 ((n * 4503599627370496:Nat):Int)).toNat = F + n * 4503599627370496:=by
  rw [BitVec.toNat_or,BitVec.ofInt_natCast,BitVec.toNat_ofNat,Nat.mod_eq_of_lt (by omega),BitVec.ofInt_natCast,BitVec.toNat_ofNat,Nat.mod_eq_of_lt (by omega),Nat.or_comm]
  have:=Nat.two_pow_add_eq_or_of_lt (i:=52) (b:=F) hF n
  rw [show n * 4503599627370496 = 2 ^ 52 * n by rw [pow52];omega,← this,pow52]
  omega
 show IntKind.u64.wrap (((BitVec.ofInt 64 (F:Int) ||| BitVec.ofInt 64 ((n * 4503599627370496:Nat):Int)).toNat:Nat):Int) = _
 rw [e,IntKind.wrap_u64]
 omega
theorem or_fieldI (F n:Nat) (hF:F < 4503599627370496) (hn:n < 2048):bits .or .u64 (F:Int) ((n:Int) * 4503599627370496) = (F + n * 4503599627370496:Nat):=by
 have:=or_field F n hF hn
 rwa [show ((n * 4503599627370496:Nat):Int) = (n:Int) * 4503599627370496 by omega] at this
theorem not_field (a:Nat) (h:a < 9223372036854775808):bits .andNot .u64 (a:Int) 9218868437227405312 = (a % 4503599627370496:Nat):=by
 have e:(BitVec.ofInt 64 (a:Int) &&& ~~~ BitVec.ofInt 64 9218868437227405312).toNat = a % 4503599627370496:=by
  have e1:(BitVec.ofInt 64 (a:Int) &&& ~~~ BitVec.ofInt 64 9218868437227405312) = BitVec.ofNat 64 (a % 4503599627370496):=by
   have e2 : ~~~ BitVec.ofInt 64 9218868437227405312 = BitVec.ofNat 64 9227875636482146303:=by decide
   rw [e2]
   apply BitVec.eq_of_toNat_eq
   rw [BitVec.toNat_and,BitVec.ofInt_natCast,BitVec.toNat_ofNat,Nat.mod_eq_of_lt (by omega),BitVec.toNat_ofNat,BitVec.toNat_ofNat,Nat.mod_eq_of_lt (show a % 4503599627370496 < 2 ^ 64 by omega)]
   have e3:(9227875636482146303:Nat) % 2 ^ 64 = 2 ^ 63 + (2 ^ 52 - 1):=by decide
   rw [e3]
   apply Nat.eq_of_testBit_eq
   intro i
   rw [Nat.testBit_and,show (4503599627370496:Nat) = 2 ^ 52 from pow52.symm,Nat.testBit_mod_two_pow]
   by_cases h63:i < 63
   ·rw [Nat.testBit_two_pow_add_gt h63,Nat.testBit_two_pow_sub_one,Bool.and_comm]
   ·have h2i:2 ^ 63 ≤ 2 ^ i:=Nat.pow_le_pow_right (by decide) (by omega)
    have hb:a < 2 ^ i:=Nat.lt_of_lt_of_le h h2i
    rw [Nat.testBit_lt_two_pow hb];simp
  rw [e1,BitVec.toNat_ofNat,Nat.mod_eq_of_lt (by omega)]
 show IntKind.u64.wrap (((BitVec.ofInt 64 (a:Int) &&& ~~~ BitVec.ofInt 64 9218868437227405312).toNat:Nat):Int) = _
 rw [e,IntKind.wrap_u64]
 omega
theorem bits_andi (a:Nat) (h:a < 4611686018427387904) (k:Nat) (hk:k < 62):bits .and .i64 (a:Int) ((2 ^ k - 1:Nat):Int) = (a % 2 ^ k:Nat):=by
 have h2:2 ^ k ≤ 2 ^ 62:=Nat.pow_le_pow_right (by omega) (by omega)
 have h3:2 ^ k - 1 < 18446744073709551616:=by omega
 have e:(BitVec.ofInt 64 (a:Int) &&& BitVec.ofInt 64 ((2 ^ k - 1:Nat):Int)).toNat = a % 2 ^ k:=by
  rw [BitVec.toNat_and,BitVec.ofInt_natCast,BitVec.toNat_ofNat,Nat.mod_eq_of_lt (by omega),BitVec.ofInt_natCast,BitVec.toNat_ofNat,Nat.mod_eq_of_lt h3]
  exact Nat.and_two_pow_sub_one_eq_mod a k
 show IntKind.i64.wrap (((BitVec.ofInt 64 (a:Int) &&& BitVec.ofInt 64 ((2 ^ k - 1:Nat):Int)).toNat:Nat):Int) = _
 rw [e]
 have:a % 2 ^ k ≤ a:=Nat.mod_le _ _
 exact IntWalk.i64_in _ (by omega)
theorem and11i (a:Nat) (h:a < 2048):bits .and .i64 (a:Int) 2047 = (a:Int):=by
 have:=bits_andi a (by omega) 11 (by omega)
 rw [show a % 2 ^ 11 = a from Nat.mod_eq_of_lt h] at this
 exact this
theorem frexp_any (a:Nat) (w:World) (h0:0 < a) (h:a < INF):Calls Tryz.prog 237 #[fv a] w fun e w'=>e = .returned (.tuple #[fv (frF a),.int .i64 (frE a)]) ∧ w = w':=by
 have hn:=nrm_ok a h0 h
 have h64:a < 18446744073709551616:=by unfold INF at h;omega
 have HI:=Lib.hid (fun W=>IsInf_any a W h64)
 rw [infB_fin a (pfin a h).1] at HI
 have HN:=Lib.hid (fun W=>IsNaN_any a W)
 rw [nan_fin a (pfin a h).1] at HN
 have HZ:=Lib.hid (fun W=>normalize_any a W h0 h)
 have he:=eqR (eq0 a h0 h)
 have hq:((nrm a:Int) / 4503599627370496) = ((nrm a / 4503599627370496:Nat):Int):=by omega
 have hx:nrm a / 4503599627370496 ≤ 2046:=by have:=hn.2.1;unfold INF at this;omega
 have h2:bits .and .u64 ((nrm a / 4503599627370496:Nat):Int) 2047 = ((nrm a / 4503599627370496:Nat):Int):=by rw [and11 (nrm a / 4503599627370496) (by omega)];omega
 have h3:=not_field (nrm a) (by have:=hn.2.1;unfold INF at this;omega)
 have hF:nrm a % 4503599627370496 < 4503599627370496:=Nat.mod_lt _ (by omega)
 have h4:=or_field (nrm a % 4503599627370496) 1022 hF (by omega)
 have hc:nc a ≤ 52:=by unfold nc;split <;> omega
 unfold frF frE
 generalize nrm a % 4503599627370496 = F at *
 generalize nrm a / 4503599627370496 = E at *
 generalize nc a = c at *
 generalize nrm a = b at *
 clear hn h0 h h64 hF
 replace h4:bits .or .u64 (F:Int) 4602678819172646912 = ((F + 1022 * 4503599627370496:Nat):Int):=h4
 generalize F + 1022 * 4503599627370496 = G at *
 go_enter Tryz.func237,Tryz.ntmps237
 go_wp2_with (first | (go_at_call 222;refine (HI.out _).mono ?_;rintro e w1 ⟨rfl,rfl⟩) | (go_at_call 223;refine (HN.out _).mono ?_;rintro e w1 ⟨rfl,rfl⟩) | (go_at_call 232;refine (HZ.out _).mono ?_;rintro e w1 ⟨rfl,rfl⟩))
 go_ret2
 refine ⟨num.ret_pair rfl ?_,rfl⟩
 show Value.int .i64 (-(c:Int) + ((E:Int) - 1023 + 1)) = _
 congr 1
 omega
theorem Frexp_any (a:Nat) (w:World) (h0:0 < a) (h:a < INF):Calls Tryz.prog 224 #[fv a] w fun e w'=>e = .returned (.tuple #[fv (frF a),.int .i64 (frE a)]) ∧ w = w':=by
 have HF:=Lib.hid (fun W=>frexp_any a W h0 h)
 generalize frF a = x at *
 generalize frE a = y at *
 clear h0 h
 go_enter Tryz.func224,Tryz.ntmps224
 go_wp2_with (go_at_call 237;refine (HF.out _).mono ?_;rintro e w1 ⟨rfl,rfl⟩)
 go_ret2
 exact ⟨rfl,rfl⟩
theorem infB_inf:infB 9218868437227405312 = true:=by decide +kernel
theorem eq_inf0:eqB 9218868437227405312 0 = false:=by decide +kernel
theorem Frexp_inf (w:World):Calls Tryz.prog 224 #[fv 9218868437227405312] w fun e w'=>e = .returned (.tuple #[fv 9218868437227405312,.int .i64 0]) ∧ w = w':=by
 have HI:=Lib.hid (fun W=>IsInf_any 9218868437227405312 W (by omega))
 rw [infB_inf] at HI
 have he:=eqR eq_inf0
 have HF:Hid (∀ W,Calls Tryz.prog 237 #[fv 9218868437227405312] W fun e w'=>e = .returned (.tuple #[fv 9218868437227405312,.int .i64 0]) ∧ W = w'):=by
  intro W
  go_enter Tryz.func237,Tryz.ntmps237
  go_wp2_with (go_at_call 222;refine (HI.out _).mono ?_;rintro e w1 ⟨rfl,rfl⟩)
  go_ret2
  exact ⟨rfl,rfl⟩
 clear he HI
 go_enter Tryz.func224,Tryz.ntmps224
 go_wp2_with (go_at_call 237;refine (HF.out _).mono ?_;rintro e w1 ⟨rfl,rfl⟩)
 go_ret2
 exact ⟨rfl,rfl⟩
theorem Inf_pos (w:World):Calls Tryz.prog 170 #[.int .i64 1] w fun e w'=>e = .returned (fv 9218868437227405312) ∧ w = w':=by
 go_enter Tryz.func170,Tryz.ntmps170
 go_wp2_with fail
 go_ret
 exact ⟨rfl,rfl⟩
theorem NaN_any (w:World):Calls Tryz.prog 44 #[] w fun e w'=>e = .returned (fv 9221120237041090561) ∧ w = w':=by
 go_enter Tryz.func44,Tryz.ntmps44
 go_wp2_with fail
 go_ret
 exact ⟨rfl,rfl⟩
theorem and63 (b:Nat) (h:b < 9223372036854775808):bits .and .u64 (b:Int) 9223372036854775808 = 0:=by
 have e:(BitVec.ofInt 64 (b:Int) &&& BitVec.ofInt 64 ((2 ^ 63:Nat):Int)).toNat = 0:=by
  rw [BitVec.toNat_and,BitVec.ofInt_natCast,BitVec.toNat_ofNat,Nat.mod_eq_of_lt (by omega),BitVec.ofInt_natCast,BitVec.toNat_ofNat,Nat.mod_eq_of_lt (by omega)]
  apply Nat.eq_of_testBit_eq
  intro i
  rw [Nat.testBit_and,Nat.testBit_two_pow,Nat.zero_testBit]
  by_cases hi:63 = i
  ·subst hi;rw [Nat.testBit_lt_two_pow h];rfl
  ·simp [hi]
 show IntKind.u64.wrap (((BitVec.ofInt 64 (b:Int) &&& BitVec.ofInt 64 ((2 ^ 63:Nat):Int)).toNat:Nat):Int) = _
 rw [e]
 rfl
theorem Copysign_zero (b:Nat) (w:World) (h:b < 9223372036854775808):Calls Tryz.prog 221 #[fv 0,fv b] w fun e w'=>e = .returned (fv 0) ∧ w = w':=by
 have h1:=and63 b h
 have h2:bits .andNot .u64 0 9223372036854775808 = 0:=by decide
 have h3:bits .or .u64 0 0 = 0:=by decide
 clear h
 go_enter Tryz.func221,Tryz.ntmps221
 go_wp2_with fail
 go_ret
 exact ⟨rfl,rfl⟩
theorem ldexp_any (a:Nat) (k:Int) (w:World) (h0:0 < a) (h:a < INF) (hk1 : -100000 ≤ k) (hk2:k ≤ 100000):Calls Tryz.prog 212 #[fv a,.int .i64 k] w fun e w'=>e = .returned (fv (ldx a k)) ∧ w = w':=by
 have hn:=nrm_ok a h0 h
 have h64:a < 18446744073709551616:=by unfold INF at h;omega
 have hn2:nrm a < 9218868437227405312:=hn.2.1
 have HI:=Lib.hid (fun W=>IsInf_any a W h64)
 rw [infB_fin a (pfin a h).1] at HI
 have HN:=Lib.hid (fun W=>IsNaN_any a W)
 rw [nan_fin a (pfin a h).1] at HN
 have HZ:=Lib.hid (fun W=>normalize_any a W h0 h)
 have he:=eqR (eq0 a h0 h)
 have hlt:=ltR (lt0 (nrm a) hn.2.1)
 have hq:((nrm a:Int) / 4503599627370496) = ((nrm a / 4503599627370496:Nat):Int):=by omega
 have hx:nrm a / 4503599627370496 ≤ 2046:=by omega
 have h2:=and11i (nrm a / 4503599627370496) (by omega)
 have h3:=not_field (nrm a) (by omega)
 have hF:nrm a % 4503599627370496 < 4503599627370496:=Nat.mod_lt _ (by omega)
 have hc:nc a ≤ 52:=by unfold nc;split <;> omega
 have HCS:=Lib.hid (fun W=>Copysign_zero (nrm a) W (by omega))
 unfold ldx xE
 generalize nrm a % 4503599627370496 = F at *
 generalize nrm a / 4503599627370496 = E at *
 generalize nc a = c at *
 generalize nrm a = b at *
 clear hn h0 h h64 hn2
 have hX:k - (c:Int) + (E:Int) - 1023 = k + -(c:Int) + ((E:Int) - 1023):=by omega
 rw [hX]
 clear hX
 by_cases hA:k + -(c:Int) + ((E:Int) - 1023) < -1075
 ·rw [if_pos hA]
  have hd:=decide_eq_true hA
  clear hF h3
  go_enter Tryz.func212,Tryz.ntmps212
  go_wp2_with (first | (go_at_call 222;refine (HI.out _).mono ?_;rintro e w1 ⟨rfl,rfl⟩) | (go_at_call 223;refine (HN.out _).mono ?_;rintro e w1 ⟨rfl,rfl⟩) | (go_at_call 232;refine (HZ.out _).mono ?_;rintro e w1 ⟨rfl,rfl⟩) | (go_at_call 221;refine (HCS.out _).mono ?_;rintro e w1 ⟨rfl,rfl⟩))
  go_ret
  exact ⟨rfl,rfl⟩
 ·rw [if_neg hA]
  have hd:=decide_eq_false hA
  by_cases hB:1023 < k + -(c:Int) + ((E:Int) - 1023)
  ·rw [if_pos hB]
   have hd2:=decide_eq_true hB
   clear hF h3
   go_enter Tryz.func212,Tryz.ntmps212
   go_wp2_with (first | (go_at_call 222;refine (HI.out _).mono ?_;rintro e w1 ⟨rfl,rfl⟩) | (go_at_call 223;refine (HN.out _).mono ?_;rintro e w1 ⟨rfl,rfl⟩) | (go_at_call 232;refine (HZ.out _).mono ?_;rintro e w1 ⟨rfl,rfl⟩) | (go_at_call 170;refine (Inf_pos _).mono ?_;rintro e w1 ⟨rfl,rfl⟩))
   go_ret
   exact ⟨rfl,rfl⟩
  ·rw [if_neg hB]
   have hd2:=decide_eq_false hB
   by_cases hC:k + -(c:Int) + ((E:Int) - 1023) < -1022
   ·rw [if_pos hC]
    have hd3:=decide_eq_true hC
    obtain ⟨n,hn⟩:∃ n:Nat,(k + -(c:Int) + ((E:Int) - 1023) + 1076).toNat = n:=⟨_,rfl⟩
    rw [hn]
    have hn3:n ≤ 53:=by omega
    have hw:k + -(c:Int) + ((E:Int) - 1023) + 53 + 1023 = (n:Int):=by omega
    have ho:=or_fieldI F n hF (by omega)
    obtain ⟨r,hr,hrl⟩:=mul_some 4368491638549381120 (F + n * 4503599627370496) c53_ok.1 (by unfold INF;omega)
    rw [hr]
    have hm:=fun W=>run_float_arith (P:=Tryz.prog) W .mul 45 .f64 _ _ r hr
    generalize F + n * 4503599627370496 = x at *
    clear hF hrl hr hn
    go_enter Tryz.func212,Tryz.ntmps212
    go_wp2_with (first | (go_at_call 222;refine (HI.out _).mono ?_;rintro e w1 ⟨rfl,rfl⟩) | (go_at_call 223;refine (HN.out _).mono ?_;rintro e w1 ⟨rfl,rfl⟩) | (go_at_call 232;refine (HZ.out _).mono ?_;rintro e w1 ⟨rfl,rfl⟩))
    go_ret
    exact ⟨rfl,rfl⟩
   ·rw [if_neg hC]
    have hd3:=decide_eq_false hC
    obtain ⟨n,hn⟩:∃ n:Nat,(k + -(c:Int) + ((E:Int) - 1023) + 1023).toNat = n:=⟨_,rfl⟩
    rw [hn]
    have hn3:n ≤ 2046:=by omega
    have hw:k + -(c:Int) + ((E:Int) - 1023) + 1023 = (n:Int):=by omega
    have ho:=or_fieldI F n hF (by omega)
    have hr:=one_mul (F + n * 4503599627370496) (by unfold INF;omega)
    have hm:=fun W=>run_float_arith (P:=Tryz.prog) W .mul 45 .f64 4607182418800017408 _ _ hr
    generalize F + n * 4503599627370496 = x at *
    clear hF hr hn
    go_enter Tryz.func212,Tryz.ntmps212
    go_wp2_with (first | (go_at_call 222;refine (HI.out _).mono ?_;rintro e w1 ⟨rfl,rfl⟩) | (go_at_call 223;refine (HN.out _).mono ?_;rintro e w1 ⟨rfl,rfl⟩) | (go_at_call 232;refine (HZ.out _).mono ?_;rintro e w1 ⟨rfl,rfl⟩))
    go_ret
    exact ⟨rfl,rfl⟩
theorem Ldexp_any (a:Nat) (k:Int) (w:World) (h0:0 < a) (h:a < INF) (hk1 : -100000 ≤ k) (hk2:k ≤ 100000):Calls Tryz.prog 193 #[fv a,.int .i64 k] w fun e w'=>e = .returned (fv (ldx a k)) ∧ w = w':=by
 have HF:=Lib.hid (fun W=>ldexp_any a k W h0 h hk1 hk2)
 generalize ldx a k = x at *
 clear h0 h
 go_enter Tryz.func193,Tryz.ntmps193
 go_wp2_with (go_at_call 212;refine (HF.out _).mono ?_;rintro e w1 ⟨rfl,rfl⟩)
 go_ret
 exact ⟨rfl,rfl⟩
theorem eq_00:eqB 0 0 = true:=by decide +kernel
theorem Ldexp_zero (k:Int) (w:World):Calls Tryz.prog 193 #[fv 0,.int .i64 k] w fun e w'=>e = .returned (fv 0) ∧ w = w':=by
 have he:=eqR eq_00
 have HF:Hid (∀ W,Calls Tryz.prog 212 #[fv 0,.int .i64 k] W fun e w'=>e = .returned (fv 0) ∧ W = w'):=by
  intro W
  go_enter Tryz.func212,Tryz.ntmps212
  go_wp2_with fail
  go_ret
  exact ⟨rfl,rfl⟩
 clear he
 go_enter Tryz.func193,Tryz.ntmps193
 go_wp2_with (go_at_call 212;refine (HF.out _).mono ?_;rintro e w1 ⟨rfl,rfl⟩)
 go_ret
 exact ⟨rfl,rfl⟩
end Go.Proofs.YtmfpmandkhiknaaGreatDoor.flt
