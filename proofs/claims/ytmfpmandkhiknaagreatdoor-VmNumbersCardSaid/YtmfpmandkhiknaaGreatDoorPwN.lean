/-
  Proved: further lemmas and contracts that the pack of the seat does not hold. Conditions: as each theorem says.
-/
import Derived.Test.YtmfpmandkhiknaaGreatDoorPw41
import Derived.Laws.FloatArith
import Derived.Below
import Derived.Laws.NewFold
import Derived.Test.YtmfpmandkhiknaaGreatDoorRows
import Derived.WalkKit
import Derived.WalkLawsBesides
import Derived.WalkSpells
import Derived.Outline
import Derived.Lib.Hide
set_option linter.unusedVariables false
set_option linter.unusedSimpArgs false
namespace Go.Proofs.YtmfpmandkhiknaaGreatDoor.flt
open Go Ieee Go.RowKit
def sameB (a b:Nat):Bool:=(nanB a && nanB b) || a == b
end Go.Proofs.YtmfpmandkhiknaaGreatDoor.flt
namespace Go.Proofs.YtmfpmandkhiknaaGreatDoor.flt
open Go.RowKit Ieee
attribute [local go_sem] fmt64 run_bits run_frombits run_add run_sub run_mul run_quo
set_option maxRecDepth 100000
attribute [local go_sem] run_conv_ff
attribute [local go_sem] run_neg
theorem same_any (a b:Nat) (w:World):Calls Tryz.prog 48 #[fv a,fv b] w fun e w'=>e = .returned (.bool (sameB a b)) ∧ w = w':=by
 have o1:=order_self a
 have o2:=order_self b
 have hs:((a:Int) == (b:Int)) = (a == b):=by
  rw [Bool.eq_iff_iff,beq_iff_eq,beq_iff_eq];omega
 unfold sameB
 cases hA:nanB a <;> cases hB:nanB b <;> rw [hA] at o1 <;> rw [hB] at o2 <;>
 ·go_enter Tryz.func48,Tryz.ntmps48
  go_wp2_with fail
  all_goals
   go_ret
   exact ⟨ret_b (by simp_all),rfl⟩
end Go.Proofs.YtmfpmandkhiknaaGreatDoor.flt
namespace Go.Proofs.YtmfpmandkhiknaaGreatDoor.flt
open Go.RowKit Ieee
set_option maxRecDepth 100000
theorem eqB_pos (a b:Nat) (ha:a < INF) (hb:b < INF):eqB a b = decide (a = b):=by
 rw [eqB_fin a b (pfin a ha).1 (pfin b hb).1,pval a ha,pval b hb]
 have:((mg a:Int) = (mg b:Int)) ↔ a = b:=⟨fun h=>mg_inj (Int.ofNat.inj h),fun h=>by rw [h]⟩
 exact decide_eq_decide.2 this
theorem dbl_step (x t q:Nat) (hx:x < INF) (ht:t < INF) (h0:0 < t) (hq:2 * mg q = mg x ∨ 2 * mg q = mg x + 1 ∨ 2 * mg q + 1 = mg x) (h:t ≤ q) :
  ∃ t',t' < INF ∧ fop .mul t two = some t' ∧ mg t' = 2 * mg t ∧ t < t':=by
 have h1:=(mg_le_iff t q).2 h
 have htop:=mg_top x hx
 have hp:=mg_pos t h0
 have hlt:2 * mg t < 2 ^ TX:=by
  rcases Nat.eq_zero_or_pos (pl x) with hpl | hpl
  ·have e:=mg_def x
   rw [hpl,Nat.pow_zero,Nat.mul_one] at e
   have hs:=sg_lt x
   have h2:2 ^ 53 < 2 ^ TX:=Nat.pow_lt_pow_right (by omega) (by rw [hTX,hPX];omega)
   have h3:(2:Nat) ^ 53 = 9007199254740992:=by decide
   rw [h3] at h2
   omega
  ·have e:=mg_def x
   obtain ⟨k,hk⟩:∃ k,pl x = k + 1:=⟨pl x - 1,by omega⟩
   rw [hk,Nat.pow_succ,← Nat.mul_assoc] at e
   omega
 obtain ⟨t',ht',e⟩:=rep_any (sg t) (pl t + 1) (sg_lt t) (by rw [Nat.pow_succ,← Nat.mul_assoc,mg_def,Nat.mul_comm];exact hlt)
 rw [Nat.pow_succ,← Nat.mul_assoc,mg_def,Nat.mul_comm] at e
 refine ⟨t',ht',mul_exact t two t' ht two_ok.1 ht' ?_,e,?_⟩
 ·rw [mg_two,e,← Nat.mul_assoc,Nat.mul_comm (mg t) 2]
 ·rw [← mg_lt_iff,e];omega
theorem rMod_nan (a b:Nat) (w:World) (ha:a < 18446744073709551616) (hb:b < 18446744073709551616) (h:(eqB b 0 || infB a || nanB a || nanB b) = true):Calls Tryz.prog 20 #[fv a,fv b] w fun e w'=>e = .returned (fv NANB) ∧ w = w':=by
 have o1:=neR (a:=a) (c:=a) (b := !nanB a) (by unfold eqB;rw [order_self])
 have o2:=neR (a:=b) (c:=b) (b := !nanB b) (by unfold eqB;rw [order_self])
 rw [Bool.not_not] at o1 o2
 have HE:=Lib.hid (fun W=>endless_any a W ha)
 have hinf:(double.order (rung a) 9218868437227405311 == some .gt) = infB a:=rfl
 rw [hinf] at HE
 clear hinf
 cases h1:nanB a <;> rw [h1] at o1
 ·cases h2:nanB b <;> rw [h2] at o2
  ·cases h3:infB a <;> rw [h3] at HE
   ·rw [h1,h2,h3] at h
    have h4:eqB b 0 = true:=by simpa using h
    have o4:=eqR h4
    clear h h1 h2 h3 h4 ha hb
    go_enter Tryz.func20,Tryz.ntmps20
    go_wp2_with (first | (go_at_call 43;refine (HE.out _).mono ?_;rintro e w1 ⟨rfl,rfl⟩) | (go_at_call 44;refine (NaN_any _).mono ?_;rintro e w1 ⟨rfl,rfl⟩))
    go_ret
    exact ⟨rfl,rfl⟩
   ·clear h h1 h2 h3 ha hb
    go_enter Tryz.func20,Tryz.ntmps20
    go_wp2_with (first | (go_at_call 43;refine (HE.out _).mono ?_;rintro e w1 ⟨rfl,rfl⟩) | (go_at_call 44;refine (NaN_any _).mono ?_;rintro e w1 ⟨rfl,rfl⟩))
    go_ret
    exact ⟨rfl,rfl⟩
  ·clear h h1 h2 ha hb HE
   go_enter Tryz.func20,Tryz.ntmps20
   go_wp2_with (first | (go_at_call 44;refine (NaN_any _).mono ?_;rintro e w1 ⟨rfl,rfl⟩))
   go_ret
   exact ⟨rfl,rfl⟩
 ·clear h h1 ha hb HE o2
  go_enter Tryz.func20,Tryz.ntmps20
  go_wp2_with (first | (go_at_call 44;refine (NaN_any _).mono ?_;rintro e w1 ⟨rfl,rfl⟩))
  go_ret
  exact ⟨rfl,rfl⟩
theorem rMod_inf (a b:Nat) (w:World) (ha:a < 18446744073709551616) (hb:b < 18446744073709551616) (hna:nanB a = false) (hnb:nanB b = false) (hia:infB a = false) (hib:infB b = true) (he0:eqB b 0 = false):Calls Tryz.prog 20 #[fv a,fv b] w fun e w'=>e = .returned (fv a) ∧ w = w':=by
 have o1:=neR (a:=a) (c:=a) (b := !nanB a) (by unfold eqB;rw [order_self])
 have o2:=neR (a:=b) (c:=b) (b := !nanB b) (by unfold eqB;rw [order_self])
 have o4:=eqR he0
 rw [Bool.not_not] at o1 o2
 rw [hna] at o1
 rw [hnb] at o2
 have HE:=Lib.hid (fun W=>endless_any a W ha)
 have hinf:(double.order (rung a) 9218868437227405311 == some .gt) = infB a:=rfl
 rw [hinf,hia] at HE
 have HF:=Lib.hid (fun W=>endless_any b W hb)
 have hinf2:(double.order (rung b) 9218868437227405311 == some .gt) = infB b:=rfl
 rw [hinf2,hib] at HF
 clear hinf hinf2 hna hnb hia hib ha hb he0
 go_enter Tryz.func20,Tryz.ntmps20
 go_wp2_with (go_at_call 43;first | ((with_reducible refine (HE.out _).mono ?_);rintro e w1 ⟨rfl,rfl⟩) | ((with_reducible refine (HF.out _).mono ?_);rintro e w1 ⟨rfl,rfl⟩))
 go_ret
 exact ⟨rfl,rfl⟩
set_option maxHeartbeats 2000000 in
theorem rMod_main (a b:Nat) (w:World) (ha:a < 18446744073709551616) (hb:b < 18446744073709551616) (hfa:fin a) (hfb:fin b) (he0:eqB b 0 = false):Calls Tryz.prog 20 #[fv a,fv b] w fun e w'=>e = .returned (fv (wd (sgn a) (modR (rung a) (rung b)))) ∧ w = w':=by
 have o1:=neR (a:=a) (c:=a) (b:=true) (by unfold eqB;rw [order_self,nan_fin a hfa];rfl)
 have o2:=neR (a:=b) (c:=b) (b:=true) (by unfold eqB;rw [order_self,nan_fin b hfb];rfl)
 simp only [Bool.not_true] at o1 o2
 have o4:=eqR he0
 have HE:=Lib.hid (fun W=>endless_any a W ha)
 have hinf:(double.order (rung a) 9218868437227405311 == some .gt) = infB a:=rfl
 rw [hinf,infB_fin a hfa] at HE
 have HF:=Lib.hid (fun W=>endless_any b W hb)
 have hinf2:(double.order (rung b) 9218868437227405311 == some .gt) = infB b:=rfl
 rw [hinf2,infB_fin b hfb] at HF
 have HA:=Lib.hid (fun W=>size_any a W ha)
 have HB:=Lib.hid (fun W=>size_any b W hb)
 have hra:a % 9223372036854775808 = rung a:=rfl
 have hrb:b % 9223372036854775808 = rung b:=rfl
 rw [hra] at HA
 rw [hrb] at HB
 have HL:=Lib.hid (fun W=>rbelow_any a W ha)
 have hsg:decide (9223372036854775808 ≤ a) = sgn a:=rfl
 rw [hsg] at HL
 have Hy0:=Lib.hid (eqz b hfb he0)
 have HyI:Hid (rung b < INF):=hfb.2
 have HXI:Hid (rung a < INF):=hfa.2
 clear hfa hfb ha hb he0 hinf hinf2 hra hrb hsg
 generalize rung a = X at *
 generalize rung b = y at *
 obtain ⟨q,hqI,hq1,hq2⟩:=half X HXI.out
 have hqr:=fun W=>run_float_arith (P:=Tryz.prog) W .quo 45 .f64 X two q hq1
 have HQ:=Lib.hid hq2
 have HQI:=Lib.hid hqI
 clear hq1 hq2 hqI
 have HS:Hid (RM1 y y):=⟨HyI.out,Hy0.out,0,by rw [Nat.pow_zero,Nat.mul_one]⟩
 unfold two at hqr
 go_enter Tryz.func20,Tryz.ntmps20
 go_wp2_with (first | (go_at_call 43;first | ((with_reducible refine (HE.out _).mono ?_);rintro e w1 ⟨rfl,rfl⟩) | ((with_reducible refine (HF.out _).mono ?_);rintro e w1 ⟨rfl,rfl⟩)) | (go_at_call 45;first | ((with_reducible refine (HA.out _).mono ?_);rintro e w1 ⟨rfl,rfl⟩) | ((with_reducible refine (HB.out _).mono ?_);rintro e w1 ⟨rfl,rfl⟩)))
 go_loop [7] (fun v=>∃ t,v = fv t ∧ RM1 y t) (fun v=>INF - bitsOf v)
 case atStart=>exact ⟨y,rfl,HS.out⟩
 case round =>
  obtain ⟨t,rfl,hst⟩:=hrel
  have hge:=geB_pos q t HQI.out hst.1
  by_cases htq:t ≤ q
  ·rw [decide_eq_true htq] at hge
   replace hge:=geR hge
   obtain ⟨t',h1,h2,h3,h4⟩:=dbl_step X t q HXI.out hst.1 hst.2.1 HQ.out htq
   have hmu:=fun W=>run_float_arith (P:=Tryz.prog) W .mul 45 .f64 t two t' h2
   unfold two at hmu
   have HN:Hid (RM1 y t'):=by
    obtain ⟨j,e⟩:=hst.2.2
    exact ⟨h1,Nat.lt_trans hst.2.1 h4,j + 1,by rw [h3,e,Nat.pow_succ,Nat.mul_comm (2 ^ j) 2,Nat.mul_left_comm]⟩
   have HM:Hid (INF - t' < INF - t):=by show _ < _;omega
   clear h1 h2 h3 h4 hst htq
   go_wp2_with fail
   go_round
   case rel=>exact ⟨t',rfl,HN.out⟩
   case measure=>exact HM.out
  ·rw [decide_eq_false htq] at hge
   replace hge:=geR hge
   have HR:=Lib.hid (RM.start HXI.out hst HQ.out htq)
   clear htq hst
   go_wp2_with fail
   go_loop [5,7] (fun u v=>∃ r t,u = fv r ∧ v = fv t ∧ RM X y r t) (fun _ v=>bitsOf v)
   case atStart=>exact ⟨X,t,rfl,rfl,HR.out⟩
   case round =>
    obtain ⟨r,s,rfl,rfl,hst⟩:=hrel
    have hg1:=geB_pos s y hst.2.1 HyI.out
    rw [decide_eq_true hst.ge] at hg1
    replace hg1:=geR hg1
    have hg2:=geB_pos r s hst.1 hst.2.1
    have hg3:=eqB_pos s y hst.2.1 HyI.out
    obtain ⟨r',hs,hrI,hcase⟩:=hst.step HXI.out HyI.out Hy0.out
    clear hst hge hqr
    have fin2:∀ W:World,r' = modR X y → Hid (∀ W,Calls Tryz.prog 47 #[fv r'] W fun e w'=>e = .returned (fv (wd true r')) ∧ W = w'):=by
     intro W h W
     have h64:r' < 18446744073709551616:=Nat.lt_trans hrI (by unfold INF;omega)
     refine (rNeg_any r' W h64).mono fun e w' h=>⟨h.1.trans ?_,h.2⟩
     rw [ng_wd r' h64,(pfin r' hrI).2.1,(pfin r' hrI).2.2];rfl
    rcases hs with ⟨hle,hsub⟩ | ⟨hle,rfl⟩
    ·rw [decide_eq_true hle] at hg2
     replace hg2:=geR hg2
     have hsu:=fun W=>run_float_arith (P:=Tryz.prog) W .sub 45 .f64 r s r' hsub
     clear hle hsub
     rcases hcase with ⟨rfl,he⟩ | ⟨hne,s',hq1,hlt,hrm⟩
     ·rw [decide_eq_true rfl] at hg3
      replace hg3:=eqR hg3
      have HNg:=fin2 w he
      have HE2:=Lib.hid he
      clear he fin2 hrI
      cases hsn:sgn a <;> rw [hsn] at HL
      all_goals
       have HSN:=Lib.hid hsn
       clear hsn
       go_wp2_with (first | (go_at_call 46;refine (HL.out _).mono ?_;rintro e w1 ⟨rfl,rfl⟩) | (go_at_call 47;refine (HNg.out _).mono ?_;rintro e w1 ⟨rfl,rfl⟩))
       go_ret
       exact ⟨ret_f (by rw [← HE2.out,HSN.out];try rfl),rfl⟩
     ·rw [decide_eq_false hne] at hg3
      replace hg3:=eqR hg3
      rw [hg3,Bool.or_false] at hg1
      have hqu:=fun W=>run_float_arith (P:=Tryz.prog) W .quo 45 .f64 s two s' hq1
      unfold two at hqu
      have HRM:=Lib.hid hrm
      have HLT:=Lib.hid hlt
      clear hq1 hne hlt hrm fin2 hrI
      go_wp2_with fail
      go_round
      case rel=>exact ⟨r',s',rfl,rfl,HRM.out⟩
      case measure=>exact HLT.out
    ·rw [decide_eq_false hle] at hg2
     replace hg2:=geR hg2
     clear hle
     rcases hcase with ⟨rfl,he⟩ | ⟨hne,s',hq1,hlt,hrm⟩
     ·rw [decide_eq_true rfl] at hg3
      replace hg3:=eqR hg3
      have HNg:=fin2 w he
      have HE2:=Lib.hid he
      clear he fin2 hrI
      cases hsn:sgn a <;> rw [hsn] at HL
      all_goals
       have HSN:=Lib.hid hsn
       clear hsn
       go_wp2_with (first | (go_at_call 46;refine (HL.out _).mono ?_;rintro e w1 ⟨rfl,rfl⟩) | (go_at_call 47;refine (HNg.out _).mono ?_;rintro e w1 ⟨rfl,rfl⟩))
       go_ret
       exact ⟨ret_f (by rw [← HE2.out,HSN.out];try rfl),rfl⟩
     ·rw [decide_eq_false hne] at hg3
      replace hg3:=eqR hg3
      rw [hg3,Bool.or_false] at hg1
      have hqu:=fun W=>run_float_arith (P:=Tryz.prog) W .quo 45 .f64 s two s' hq1
      unfold two at hqu
      have HRM:=Lib.hid hrm
      have HLT:=Lib.hid hlt
      clear hq1 hne hlt hrm fin2 hrI
      go_wp2_with fail
      go_round
      case rel=>exact ⟨r',s',rfl,rfl,HRM.out⟩
      case measure=>exact HLT.out
theorem rMod_any (a b:Nat) (w:World) (ha:a < 18446744073709551616) (hb:b < 18446744073709551616):Calls Tryz.prog 20 #[fv a,fv b] w fun e w'=>e = .returned (fv (md a b)) ∧ w = w':=by
 unfold md
 cases h:(eqB b 0 || infB a || nanB a || nanB b)
 ·rw [if_neg Bool.false_ne_true]
  simp only [Bool.or_eq_false_iff] at h
  obtain ⟨⟨⟨h1,h2⟩,h3⟩,h4⟩:=h
  cases h5:infB b
  ·rw [if_neg Bool.false_ne_true]
   exact rMod_main a b w ha hb (inf_cases a ha h2 h3) (inf_cases b hb h5 h4) h1
  ·rw [if_pos rfl]
   exact rMod_inf a b w ha hb h3 h4 h2 h5 h1
 ·rw [if_pos rfl]
  exact rMod_nan a b w ha hb h
attribute [local go_sem] run_bits run_frombits
end Go.Proofs.YtmfpmandkhiknaaGreatDoor.flt
namespace Go.Proofs.YtmfpmandkhiknaaGreatDoor.mkr
open Go Go.RowKit Ieee
open heap vmm
open flt
def nxs:List (List UInt8) := [[48],[40,48,32,45,32,48,41],[40,45,32,48,41],[49],[40,49,32,47,32,48,41],[40,45,32,49,32,47,32,48,41],[40,48,32,47,32,48,41],[48,46,49],[51],[40,45,32,50,46,53,41],[57,48,48,55,49,57,57,50,53,52,55,52,48],[110,117,109,40,34,105,110,102,34,41],[110,117,109,40,34,49,112,45,49,48,55,52,34,41],[110,117,109,40,34,45,48,34,41]]
def nops:List (List UInt8) := [[43],[45],[42],[47],[37],[61,61],[60]]
def nS (x y o:List UInt8):List UInt8 := [115,101,116,32,97,32,61,32] ++ x ++ [59,32,115,101,116,32,98,32,61,32] ++ y ++ [59,32,115,101,116,32,99,32,61,32,97,32] ++ o ++ [32,98,59,32,115,101,116,32,100,32,61,32,116,101,120,116,40,99,41,59,32,115,101,116,32,102,32,61,32,110,117,109,40,100,41,59,32,115,101,116,32,103,32,61,32,102,32,61,61,32,99,59]
def nW (k:Nat) (p q:Nat):Nat:=if k = 0 then opC .add p q else if k = 1 then opC .sub p q else if k = 2 then opC .mul p q else if k = 3 then opC .quo p q else if k = 4 then modC p q else if k = 5 then (if eqB p q then 4607182418800017408 else 0) else (if double.order p q == some .lt then 4607182418800017408 else 0)
def nM (c:List Ins):Mac:=runM 201 (newM ((machC c).map (·.1)) 200)
def nV (m:Mac) (i:Nat):Val:=m.vars.getD i zeroV
def nOk (x y:List UInt8) (k:Nat):Bool:=match codeS (nS x y (nops.getD k [])) with
 | none=>false
 | some c=>(nM c).state == 2 && (nV (nM c) 2).num == nW k (nV (nM c) 0).num (nV (nM c) 1).num && (nV (nM c) 3).isT && (nV (nM c) 4).isT == (nV (nM c) 2).isT && (nV (nM c) 4).text == (nV (nM c) 2).text && (nV (nM c) 4).num == (nV (nM c) 2).num && (nV (nM c) 5).num == (if eqB (nV (nM c) 2).num (nV (nM c) 2).num then 4607182418800017408 else 0)
def nAll (x:List UInt8):Bool:=nxs.all fun y => [0,1,2,3,4,5,6].all fun k=>nOk x y k
end Go.Proofs.YtmfpmandkhiknaaGreatDoor.mkr
namespace Go.Proofs.YtmfpmandkhiknaaGreatDoor.vmm
open Go Go.RowKit Ieee
open flt heap
open lex (run_store_float add0)
set_option maxRecDepth 100000
attribute [local go_sem] run_store_float
theorem Vars_all (p:Nat) (m:Mac) (cv sv:Value) (C:Is) (w:World) (h:MAt w p m cv sv C) :
  Calls Tryz.prog 19 #[.pointer (some ⟨p,0,none⟩)] w fun e w'=>∃ v V,e = .returned v ∧ VRow w' w.heap.size v V ∧ V.map (·.1) = m.vars ∧ VsOk V ∧ V.length = 64 ∧ Below w.heap.size w w':=by
 obtain ⟨V,L,h1,-,-⟩:=h
 have hl:=vCs_len V
 rw [h1.v64] at hl
 have HC:=Lib.hid (clone_any V p 5 64 w (fun j u hu=>by
  have hj:j < 192:=by have:=(List.getElem?_eq_some_iff.1 hu).1;omega
  rw [h1.cell,Nat.add_comm 5 j,row_var h1.v64 j hj]
  exact hu) (fun e=>by have:=h1.v64;rw [e] at this;cases this) (by rw [h1.v64];decide))
 rw [h1.v64] at HC
 have HV:=Lib.hid h1.vars
 have HO:=Lib.hid h1.vok
 have H64:=Lib.hid h1.v64
 have hpl:=blk_lt h1.obj
 clear h1 hl
 go_enter Tryz.func19,Tryz.ntmps19
 go_wp2_with (go_at_call 42;refine (HC.out).mono ?_;rintro e w5 ⟨v5,rfl,hr,hb⟩;have HR:=Lib.hid hr;have HB:=Lib.hid hb;clear hr hb)
 go_ret
 exact ⟨_,_,rfl,HR.out,HV.out,HO.out,H64.out,HB.out⟩
end Go.Proofs.YtmfpmandkhiknaaGreatDoor.vmm
namespace Go.Proofs.YtmfpmandkhiknaaGreatDoor.mkr
open Go Go.RowKit
open heap vmm
theorem vars_cells {W:World} {b:Nat} {v:Value} {V:Vs} (h:VRow W b v V) (hl:V.length = 64):∃ g c,v = .slice (some ⟨g,0,none⟩) 64 c ∧ ∀ i x,V[i]? = some x → W.cell? ⟨g,i * 3,none⟩ = some (.bool x.1.isT) ∧ W.cell? ⟨g,i * 3 + 1,none⟩ = some (.string ⟨x.1.text.toArray⟩) ∧ W.cell? ⟨g,i * 3 + 2,none⟩ = some (.float .f64 x.2):=by
 have hcl := @World.ownsRow.cells _ _ _ _ _ _ _ h
 obtain ⟨_,⟨_,h0⟩ | ⟨g,c,cur,hv,_⟩⟩:=h
 ·omega
 ·subst hv
  refine ⟨g,c,by rw [hl],fun i x hx => ?_⟩
  obtain ⟨c0,c1,c2⟩:=vCs_get V i x hx
  exact ⟨by rw [← lex.add0];exact hcl (g:=g) rfl _ _ c0,by rw [← lex.add0];exact hcl (g:=g) rfl _ _ c1,by rw [← lex.add0];exact hcl (g:=g) rfl _ _ c2⟩
theorem Vars_at (b p:Nat) (m:Mac) (cv sv:Value) (C:Is) (w:World) (h:MO b w p m cv sv C) :
  Calls Tryz.prog 19 #[.pointer (some ⟨p,0,none⟩)] w fun e w'=>∃ g c,e = .returned (.slice (some ⟨g,0,none⟩) 64 c) ∧ (∀ i,i < 64 → ∃ r,NumOk (m.vars.getD i zeroV) r ∧ w'.cell? ⟨g,i * 3,none⟩ = some (.bool (m.vars.getD i zeroV).isT) ∧ w'.cell? ⟨g,i * 3 + 1,none⟩ = some (.string ⟨(m.vars.getD i zeroV).text.toArray⟩) ∧ w'.cell? ⟨g,i * 3 + 2,none⟩ = some (.float .f64 r)) ∧ Below w.heap.size w w':=
 (Vars_all p m cv sv C w h.at').mono fun e w' ⟨v,V,he,hr,hV,hok,hlen,hb⟩=>by
  obtain ⟨g,c,hv,hc⟩:=vars_cells hr hlen
  refine ⟨g,c,by rw [he,hv],fun i hi => ?_,hb⟩
  have hg:V[i]? = some (V[i]'(by omega)):=List.getElem?_eq_getElem (by omega)
  have e2:m.vars.getD i zeroV = (V[i]'(by omega)).1:=by
   rw [← hV,List.getD_eq_getElem?_getD,List.getElem?_map,hg]
   rfl
  rw [e2]
  exact ⟨_,hok _ (List.getElem_mem _),hc i _ hg⟩
end Go.Proofs.YtmfpmandkhiknaaGreatDoor.mkr
