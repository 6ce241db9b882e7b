/-
  Proved: what the document's own Mod returns. Conditions: as each theorem says.
  Proved: that the code and the document read the same number of every text (plain), and FltTexts as a contract. Conditions: as each theorem says.
-/
import Derived.Test.YtmfpmandkhiknaaGreatDoorPw9
import Derived.Test.YtmfpmandkhiknaaGreatDoorPw28
set_option linter.unusedVariables false
set_option linter.unusedSimpArgs false
namespace Go.Proofs.YtmfpmandkhiknaaGreatDoor.flt
open Go.RowKit Ieee
set_option maxRecDepth 100000
theorem mg_two:mg two = 2 * 2 ^ PP:=by
 have h:PP = 51 + pl two:=by rw [hPP,two_ok.2.2]
 rw [← mg_def,two_ok.2.1,h]
 generalize pl two = k
 rw [Nat.pow_add,show (2:Nat) ^ 51 = 2251799813685248 by decide,← Nat.mul_assoc]
def RM1 (y t:Nat):Prop:=t < INF ∧ 0 < t ∧ ∃ j,mg t = mg y * 2 ^ j
def RM (X y r t:Nat):Prop:=r < INF ∧ t < INF ∧ (∃ j,mg t = mg y * 2 ^ j) ∧ mg r < 2 * mg t ∧ mg r % mg y = mg X % mg y
theorem RM.start {X y t q:Nat} (hX:X < INF) (h:RM1 y t) (hq:2 * mg q = mg X ∨ 2 * mg q = mg X + 1 ∨ 2 * mg q + 1 = mg X) (hlt:¬ t ≤ q):RM X y X t:=by
 have:=(mg_lt_iff q t).2 (Nat.lt_of_not_le hlt)
 exact ⟨hX,h.1,h.2.2,by omega,rfl⟩
theorem RM.ge {X y r t:Nat} (h:RM X y r t):y ≤ t:=by
 obtain ⟨_,_,⟨j,e⟩,_⟩:=h
 rw [← mg_le_iff,e]
 exact Nat.le_mul_of_pos_right _ (Nat.two_pow_pos j)
theorem RM.step {X y r t:Nat} (hX:X < INF) (hy:y < INF) (h0:0 < y) (h:RM X y r t) :
  ∃ r',((t ≤ r ∧ fop .sub r t = some r') ∨ (¬ t ≤ r ∧ r' = r)) ∧ r' < INF ∧ ((t = y ∧ r' = modR X y) ∨ (t ≠ y ∧ ∃ t',fop .quo t two = some t' ∧ t' < t ∧ RM X y r' t')):=by
 have hty:=h.ge
 obtain ⟨hr,ht,⟨j,e⟩,hlt,hm⟩:=h
 have hy0:=mg_pos y h0
 have key:∃ r',((t ≤ r ∧ fop .sub r t = some r') ∨ (¬ t ≤ r ∧ r' = r)) ∧ r' < INF ∧ mg r' < mg t ∧ mg r' % mg y = mg X % mg y:=by
  by_cases hle:t ≤ r
  ·obtain ⟨r',hr',er⟩:=near_sub r t hr ht ((mg_le_iff t r).2 hle) (Nat.le_of_lt hlt)
   refine ⟨r',.inl ⟨hle,sub_exact r t r' hr ht hr' er⟩,hr',by omega,?_⟩
   rw [← hm,er,e,Nat.add_comm,Nat.add_mul_mod_self_left]
  ·exact ⟨r,.inr ⟨hle,rfl⟩,hr,(mg_lt_iff r t).2 (Nat.lt_of_not_le hle),hm⟩
 obtain ⟨r',hs,hr',hl',hm'⟩:=key
 refine ⟨r',hs,hr',?_⟩
 by_cases hty2:t = y
 ·left
  refine ⟨hty2,?_⟩
  subst hty2
  apply mg_inj
  rw [(modR_ok X t hX hy h0).2,← hm',Nat.mod_eq_of_lt hl']
 ·right
  refine ⟨hty2,?_⟩
  obtain ⟨k,rfl⟩:∃ k,j = k + 1:=by
   cases j with
   | zero=>exfalso;apply hty2;apply mg_inj;rw [e,Nat.pow_zero,Nat.mul_one]
   | succ k=>exact ⟨k,rfl⟩
  have e2:mg t = 2 * (mg y * 2 ^ k):=by rw [e,Nat.pow_succ,Nat.mul_comm (2 ^ k) 2,Nat.mul_left_comm]
  have htop:=mg_top t ht
  have hk:0 < mg y * 2 ^ k:=Nat.mul_pos hy0 (Nat.two_pow_pos k)
  obtain ⟨t',ht',et⟩:=rep_any (sg y) (pl y + k) (sg_lt y) (by rw [Nat.pow_add,← Nat.mul_assoc,mg_def];omega)
  rw [Nat.pow_add,← Nat.mul_assoc,mg_def] at et
  rw [← et] at e2 hk
  refine ⟨t',half_even t t' ht e2,?_,hr',ht',⟨k,et⟩,by omega,hm'⟩
  rw [← mg_lt_iff];omega
attribute [local go_sem] run_bits run_frombits
end Go.Proofs.YtmfpmandkhiknaaGreatDoor.flt
namespace Go.Proofs.YtmfpmandkhiknaaGreatDoor.flt
open Go.RowKit Ieee
open num (ofDecV ofDecX ofDecE ofDec_no ofDec_yes decL decF decS decF_rec digit ofDecBad)
set_option maxRecDepth 100000
theorem isD_nat {c:UInt8} (h:isD c = true):48 ≤ c.toNat ∧ c.toNat ≤ 57:=by
 have:=(isD_iff c).1 h
 omega
theorem digit_of (x:Nat) (c:UInt8) (h:isD c = true):digit (x * 10 + (c.toNat - 48)) = c:=by
 have h1:=isD_nat h
 apply UInt8.toNat_inj.1
 rw [num.digit_nat]
 omega
theorem dec_back:∀ (n:Nat) (l:List UInt8),l.length = n → l.all isD = true → 1 ≤ n → n ≤ 20 → (n = 1 ∨ l.head? ≠ some 48) → decF 19 (numL l) = l
 | 0,l,_,_,h,_,_=>by omega
 | n + 1,l,hl,ha,_,hn,hh=>by
  have hne:l ≠ []:=by intro e;rw [e] at hl;simp at hl
  obtain ⟨l',c,rfl⟩:∃ l' c,l = l' ++ [c]:=⟨l.dropLast,l.getLast hne,(List.dropLast_concat_getLast hne).symm⟩
  rw [List.all_append,Bool.and_eq_true] at ha
  have hc:isD c = true:=by simpa using ha.2
  have h1:=isD_nat hc
  have hl':l'.length = n:=by simpa using hl
  rw [numL_snoc]
  have hlt:numL (l' ++ [c]) < 10 ^ 20:=by
   have:=numL_lt (l' ++ [c]) (by rw [List.all_append,Bool.and_eq_true];exact ha)
   exact Nat.lt_of_lt_of_le this (Nat.pow_le_pow_right (by omega) (by rw [hl];exact hn))
  rw [numL_snoc] at hlt
  rcases Nat.eq_zero_or_pos n with h0 | h0
  ·have:l' = []:=List.eq_nil_of_length_eq_zero (by omega)
   subst this
   have e:numL ([]:List UInt8) = 0:=rfl
   rw [e]
   rw [num.decF_small 19 _ (by omega),digit_of 0 c hc];rfl
  ·have hhead:l'.head? ≠ some 48:=by
    rcases hh with hh | hh
    ·omega
    ·cases l' with
     | nil=>simp at hl';omega
     | cons y r=>simpa using hh
   have ih:=dec_back n l' hl' ha.1 h0 (by omega) (.inr hhead)
   have hpos:0 < numL l':=by
    cases l' with
    | nil=>simp at hl';omega
    | cons y r =>
     have hy:isD y = true:=by have:=ha.1;rw [List.all_cons,Bool.and_eq_true] at this;exact this.1
     have hy1:=isD_nat hy
     have hy2:y.toNat ≠ 48:=by
      intro e
      apply hhead
      have:y = 48:=UInt8.toNat_inj.1 e
      rw [this];rfl
     rw [show y :: r = [y] ++ r from rfl,numL_append]
     have e:numL [y] = y.toNat - 48:=by simp [numL]
     rw [e]
     have:0 < (y.toNat - 48) * 10 ^ r.length:=Nat.mul_pos (by omega) (Nat.pow_pos (by omega))
     omega
   rw [decF_rec 19 _ (by omega) hlt]
   have e1:(numL l' * 10 + (c.toNat - 48)) / 10 = numL l':=by omega
   rw [e1,ih,digit_of _ c hc]
theorem ofDec_dec {l:List UInt8} {x:Nat} (h:ofDecV l = some x):l = decL x:=by
 obtain ⟨h1,h2,h3,h4⟩:=ofDecV_all h
 have hb:ofDecBad l = false:=by
  unfold ofDecV at h
  split at h
  ·cases h
  ·rename_i hb;simpa using hb
 unfold ofDecBad at hb
 simp only [Bool.or_eq_false_iff,Bool.and_eq_false_iff,decide_eq_false_iff_not,beq_eq_false_iff_ne] at hb
 have:=dec_back l.length l rfl h1 h3 h4 (by
  rcases hb.2 with hb | hb
  ·left;omega
  ·right;exact hb)
 rw [h2] at this
 exact this.symm
theorem whole_fl (x:Nat) (h:x ≤ 9007199254740992):isW (fl x) = true ∧ tr (fl x) = x:=by
 have hI:=fl_lt x h
 have h64:fl x < 18446744073709551616:=fl64 x h
 have hm:=mg_fl x h
 have hr:rung (fl x) = fl x:=(pfin _ hI).2.1
 have ht:tr (fl x) = x:=by
  unfold tr
  rw [hr,hm,Nat.mul_div_cancel _ (Nat.two_pow_pos _)]
 refine ⟨?_,ht⟩
 have hin:inW (fl x) = true:=(inW_iff _ h64).2 ⟨(pfin _ hI).1,by rw [hr,hm];exact Nat.mul_le_mul_right _ h⟩
 unfold isW
 rw [hin,Bool.true_and]
 obtain ⟨f1,f2⟩:=fin_trunc _ h64 hin
 rw [eqB_fin _ _ (pfin _ hI).1 f1,f2,pval _ hI,(pfin _ hI).2.2,ht,hm]
 exact decide_eq_true rfl
theorem txtP_fl (x:Nat) (h:x ≤ 9007199254740992):(txtP (fl x)).data.toList = decL x:=by
 have hI:=fl_lt x h
 obtain ⟨h1,h2⟩:=whole_fl x h
 unfold txtP
 rw [if_neg (by have:INF = 9218868437227405312:=rfl;omega),h1,if_pos rfl,szS_list,(whole_tr _ hI h1).1,h2]
 unfold szL
 rw [if_neg (by omega)]
 rfl
theorem pos_ok (a:Nat) (h:a ≤ INF):nanB a = false ∧ sgn a = false ∧ a < 9223372036854775808:=by
 have hI:INF = 9218868437227405312:=rfl
 refine ⟨?_,decide_eq_false (by omega),by omega⟩
 rcases Nat.lt_or_eq_of_le h with h | rfl
 ·exact nan_fin a (pfin a h).1
 ·exact inf_nan
theorem txt_pos (a:Nat) (h:a ≤ INF):txt a = txtP a:=by
 unfold txt;rw [(pos_ok a h).1,(pos_ok a h).2.1];rfl
theorem txt_neg (a:Nat) (h:a ≤ INF):(txt (ng a)).data.toList = 45 :: (txtP a).data.toList:=by
 have hp:=pos_ok a h
 have e1:ng a = a + 9223372036854775808:=by unfold ng;rw [if_pos hp.2.2]
 have e2:ng (ng a) = a:=ng_ng a (by omega)
 have hs:sgn (ng a) = true:=by rw [e1];exact decide_eq_true (by omega)
 have hn:nanB (ng a) = false:=by
  have hl:ng a < 18446744073709551616:=by omega
  rcases fin_cases (ng a) hl with hf | ⟨h1,h2⟩ | ⟨h1,_⟩
  ·exact nan_fin _ hf
  ·unfold nanB;rw [h2];rfl
  ·exfalso
   have hI:INF = 9218868437227405312:=rfl
   unfold rung at h1;omega
 unfold txt
 rw [hn,hs,e2]
 simp only [Bool.false_eq_true,if_false,if_true]
 rw [ByteArray.data_append,Array.toList_append];rfl
theorem sign_txt (l:List UInt8) (a:Nat) (h:a ≤ INF):((txt (signV l a)).data.toList == l) = ((txtP a).data.toList == bodyL l):=by
 cases hneg:Lib.hasPrefix l [45]
 ·have hb:bodyL l = l:=by unfold bodyL Lib.trimPrefix;rw [hneg];rfl
  have hs:signV l a = a:=by unfold signV;rw [hb,if_neg (by omega)]
  rw [hb,hs,txt_pos a h]
 ·obtain ⟨t,rfl⟩:=(pre_head l).1 hneg
  have hb:bodyL (45 :: t) = t:=by unfold bodyL Lib.trimPrefix;rw [hneg];rfl
  have hs:signV (45 :: t) a = ng a:=by unfold signV;rw [hb,if_pos (by simp)]
  rw [hb,hs,txt_neg a h,Bool.eq_iff_iff,beq_iff_eq,beq_iff_eq]
  simp
theorem has_p (l:List UInt8) (h:(112:UInt8) ∈ bodyL l):l.contains 112 = true:=by
 rw [List.contains_iff_mem]
 unfold bodyL Lib.trimPrefix at h
 split at h
 ·exact List.mem_of_mem_drop h
 ·exact h
theorem no_p (l:List UInt8) (h:(112:UInt8) ∉ bodyL l):l.contains 112 = false:=by
 have:¬ l.contains 112 = true:=by
  rw [List.contains_iff_mem]
  intro hm
  apply h
  cases hneg:Lib.hasPrefix l [45]
  ·unfold bodyL Lib.trimPrefix;rw [hneg];exact hm
  ·obtain ⟨t,rfl⟩:=(pre_head l).1 hneg
   have hb:bodyL (45 :: t) = t:=by unfold bodyL Lib.trimPrefix;rw [hneg];rfl
   rw [hb]
   rcases List.mem_cons.1 hm with h | h
   ·exact absurd h (by decide)
   ·exact h
 simpa using this
theorem dg_p {f b:List UInt8} (h:f.all isD = true):dg (f ++ 112 :: b) = f.length:=by
 rw [dg_app h,dg_no (by decide)];rfl
theorem p_bad {t:List UInt8} (h:(112:UInt8) ∈ t):decOkL t = false ∧ t ≠ nanL ∧ t ≠ infL ∧ ofDecV t = none:=by
 refine ⟨?_,?_,?_,?_⟩
 ·cases hd:decOkL t with
  | false=>rfl
  | true =>
   exfalso
   unfold decOkL decOk at hd
   simp only [Bool.and_eq_true,decide_eq_true_iff,Bool.or_eq_true,Bool.not_eq_true'] at hd
   obtain ⟨⟨h1,h2⟩,_⟩:=hd
   rcases cutL_cases 46 t with ⟨_,hc⟩ | ⟨a,b,_,ht,hc⟩
   ·rw [hc] at h1
    exact all_not ((digB_iff t).1 h1).1 112 (by decide) h
   ·rw [hc] at h1 h2
    rcases h2 with h2 | h2
    ·cases h2
    ·rw [ht,List.mem_append,List.mem_cons] at h
     rcases h with h | h | h
     ·exact all_not ((digB_iff a).1 h1).1 112 (by decide) h
     ·exact absurd h (by decide)
     ·exact all_not ((digB_iff b).1 h2).1 112 (by decide) h
 ·intro e;rw [e] at h;revert h;decide
 ·intro e;rw [e] at h;revert h;decide
 ·cases hv:ofDecV t with
  | none=>rfl
  | some y=>exact absurd h (all_not (ofDecV_all hv).1 112 (by decide))
theorem pow_mem {t:List UInt8} (h:powOkL t = true):∃ f b m k,112 ∉ f ∧ t = f ++ 112 :: b ∧ ofDecV f = some m ∧ ofDecV (Lib.trimPrefix b [45]) = some k ∧ m ≤ 9007199254740992 ∧ k ≤ 2000 ∧ powVL t = ldz (fl m) (if Lib.hasPrefix b [45] then -(k:Int) else (k:Int)):=by
 unfold powOkL powOk at h
 rcases cutL_cases 112 t with ⟨_,hc⟩ | ⟨f,b,hf,ht,hc⟩
 ·rw [hc] at h;simp [powR] at h
 ·rw [hc] at h
  unfold powR at h
  rw [if_pos rfl] at h
  cases hm:ofDecV f with
  | none=>simp only [hm] at h;cases h
  | some m =>
   cases hk:ofDecV (Lib.trimPrefix b [45]) with
   | none=>simp only [hm,hk] at h;cases h
   | some k =>
    simp only [hm,hk] at h
    split at h
    ·rename_i hb
     refine ⟨f,b,m,k,hf,ht,hm,hk,hb.1,hb.2,?_⟩
     unfold powVL powV
     rw [hc]
     unfold powR
     rw [if_pos rfl]
     simp only [hm,hk]
     rw [if_pos hb];rfl
    ·cases h
theorem rpow_shape {t:List UInt8} (h:(rpowP t).2 = true):(112:UInt8) ∈ t ∧ (txt (rpowP t).1).data.toList = t:=by
 unfold rpowP at h ⊢
 split at h
 ·cases h
 ·rename_i c1
  rw [if_neg c1]
  split at h
  ·cases h
  ·rename_i c2
   rw [if_neg c2]
   have h112:t.getD (dg t) 0 = 112:=Classical.byContradiction fun h=>c1 (.inr (.inr (.inr h)))
   have hlt:dg t < t.length:=by omega
   refine ⟨?_,?_⟩
   ·rw [← h112,List.getD_eq_getElem?_getD,List.getElem?_eq_getElem hlt]
    exact List.getElem_mem hlt
   ·split at h
    ·rename_i m x hm hx
     simp only [hm,hx]
     simpa using h
    ·cases h
theorem rpow_to {t:List UInt8} (h:(rpowP t).2 = true):powOkL t = true ∧ powVL t = (rpowP t).1 ∧ (txtP (powVL t)).data.toList = t:=by
 obtain ⟨hp,he⟩:=rpow_shape h
 have hle:=rpowP_le t
 rw [txt_pos _ hle] at he
 obtain ⟨is,hb⟩:=bodyV_txtP (rpowP t).1 hle
 rw [he] at hb
 obtain ⟨b1,b2,b3,b4⟩:=p_bad hp
 unfold bodyV at hb
 rw [b1,if_neg Bool.false_ne_true,if_neg b2,if_neg b3,b4] at hb
 simp only at hb
 cases hk:powOkL t with
 | false=>rw [hk] at hb;simp at hb
 | true =>
  rw [hk] at hb
  simp only [if_true] at hb
  have:=(Prod.mk.inj (Option.some.inj hb)).1
  exact ⟨rfl,this,by rw [this];exact he⟩
theorem stp_up (x:Nat) (hx:x < INF) (h:2 * mg x < 2 ^ TX):stp false x < INF ∧ mg (stp false x) = 2 * mg x:=by
 obtain ⟨t',ht',e⟩:=rep_any (sg x) (pl x + 1) (sg_lt x) (by rw [Nat.pow_succ,← Nat.mul_assoc,mg_def,Nat.mul_comm];exact h)
 rw [Nat.pow_succ,← Nat.mul_assoc,mg_def,Nat.mul_comm] at e
 have hm:fop .mul x two = some t':=mul_exact x two t' hx two_ok.1 ht' (by rw [mg_two,e,← Nat.mul_assoc,Nat.mul_comm (mg x) 2])
 have e2:stp false x = t':=by unfold stp;simp only [Bool.false_eq_true,if_false,hm];rfl
 rw [e2]
 exact ⟨ht',e⟩
theorem itr_up (m:Nat) (hm:m ≤ 9007199254740992) (j:Nat) (h:m * 2 ^ (PP + j) < 2 ^ TX):itr false j (fl m) < INF ∧ mg (itr false j (fl m)) = m * 2 ^ (PP + j):=by
 have hb:=mg_fl m hm
 generalize hq:PP = q at *
 clear hq
 induction j with
 | zero=>exact ⟨fl_lt m hm,by rw [Nat.add_zero];exact hb⟩
 | succ j ih =>
  have e:m * 2 ^ (q + (j + 1)) = 2 * (m * 2 ^ (q + j)):=by rw [← Nat.add_assoc,Nat.pow_succ,← Nat.mul_assoc,Nat.mul_comm]
  rw [e] at h ⊢
  obtain ⟨h1,h2⟩:=ih (by omega)
  rw [← h2] at h ⊢
  exact stp_up _ h1 h
theorem itr_down (m a n:Nat) (hm:m ≤ 9007199254740992) (ha:a < INF) (h0:0 < mg a) (he:mg a * 2 ^ n = m * 2 ^ PP) (j:Nat) (hj:j ≤ n):itr true j (fl m) < INF ∧ mg (itr true j (fl m)) = mg a * 2 ^ (n - j):=by
 rw [← mg_fl m hm] at he
 induction j with
 | zero=>exact ⟨fl_lt m hm,by rw [Nat.sub_zero,he];rfl⟩
 | succ j ih =>
  obtain ⟨h1,h2⟩:=ih (by omega)
  have e:mg a * 2 ^ (n - j) = 2 * (mg a * 2 ^ (n - (j + 1))):=by
   rw [show n - j = (n - (j + 1)) + 1 by omega,Nat.pow_succ,← Nat.mul_assoc,Nat.mul_comm]
  have htop:=mg_top _ h1
  have hp:0 < mg a * 2 ^ (n - (j + 1)):=Nat.mul_pos h0 (Nat.two_pow_pos _)
  obtain ⟨y,hy,ey⟩:=rep_any (sg a) (pl a + (n - (j + 1))) (sg_lt a) (by rw [Nat.pow_add,← Nat.mul_assoc,mg_def];omega)
  rw [Nat.pow_add,← Nat.mul_assoc,mg_def] at ey
  have hq:=half_even (itr true j (fl m)) y h1 (by rw [h2,e,ey])
  have e2:itr true (j + 1) (fl m) = y:=by show stp true (itr true j (fl m)) = y;unfold stp;simp only [if_true,hq];rfl
  rw [e2]
  exact ⟨hy,ey⟩
theorem rpow_from {t:List UInt8} (h:powOkL t = true) (ht:(txtP (powVL t)).data.toList = t):rpowP t = (powVL t,true):=by
 obtain ⟨f,b,m,k,hf,htt,hm,hk,hm53,hk2,hv⟩:=pow_mem h
 have hle:powVL t ≤ INF:=by
  rw [hv]
  exact ldz_lt _ _ (fl_lt m hm53)
 generalize hA:powVL t = A at *
 have hp:(112:UInt8) ∈ t:=by rw [htt];simp
 obtain ⟨p1,p2,p3,p4⟩:=p_bad hp
 have hI:A < INF:=by
  rcases Nat.lt_or_eq_of_le hle with h | h
  ·exact h
  ·exfalso
   apply p3
   rw [← ht,h];decide +kernel
 have hI':INF = 9218868437227405312:=rfl
 have hW:isW A = false:=by
  cases hw:isW A with
  | false=>rfl
  | true =>
   exfalso
   obtain ⟨w1,w2⟩:=whole_tr A hI hw
   have e:(txtP A).data.toList = decL (tr A):=by
    unfold txtP
    rw [if_neg (by omega),hw,if_pos rfl,szS_list,w1]
    unfold szL
    rw [if_neg (by omega)];rfl
   rw [ht] at e
   rw [e] at hp
   exact all_not (decL_all (tr A) (by omega)).1 112 (by decide) hp
 have h0:0 < A:=by
  rcases Nat.eq_zero_or_pos A with rfl | h0
  ·rw [whole_zero] at hW;cases hW
  ·exact h0
 have eT:t = decL (strip 64 (sg A)).1 ++ 112 :: szL ((pl A:Int) - 1074 + (strip 64 (sg A)).2):=by
  rw [← ht]
  unfold txtP
  rw [if_neg (by omega),hW]
  simp only [Bool.false_eq_true,if_false]
  unfold txtM
  rw [ByteArray.data_append,ByteArray.data_append,Array.toList_append,Array.toList_append,szS_list]
  simp [decS]
 have hbd:=txtM_bd A (by omega)
 have hsk:=(strip_le 64 (sg A)).2
 have hpl:=pl_le A (by omega)
 have hs:=strip_mul 64 (sg A)
 have hmd:=mg_def A
 have hmp:=mg_pos A h0
 generalize (strip 64 (sg A)).1 = m' at *
 generalize (strip 64 (sg A)).2 = s at *
 have hcut:(f,b,true) = (decL m',szL ((pl A:Int) - 1074 + s),true):=by
  rw [← cutL_some (c:=112) (b:=b) hf,← htt,eT]
  exact cutL_some (all_not (decL_all m' (by omega)).1 112 (by decide))
 obtain ⟨ef,eb⟩:f = decL m' ∧ b = szL ((pl A:Int) - 1074 + s):=by
  have h1:=(Prod.mk.inj hcut).1
  have h2:=(Prod.mk.inj (Prod.mk.inj hcut).2).1
  exact ⟨h1,h2⟩
 have emm:m' = m:=by
  have:=num.ofDecV_dec m' (by omega)
  rw [← ef,hm] at this
  exact (Option.some.inj this).symm
 subst emm
 generalize hE:(pl A:Int) - 1074 + s = E at *
 have hhas:Lib.hasPrefix b [45] = decide (E < 0):=by
  rw [eb]
  unfold szL
  by_cases hneg:E < 0
  ·rw [if_pos hneg,decide_eq_true hneg];simp [Lib.hasPrefix,List.isPrefixOf]
  ·rw [if_neg hneg,decide_eq_false hneg]
   cases hh:Lib.hasPrefix (decL E.natAbs) [45] with
   | false=>rfl
   | true =>
    obtain ⟨r,hr⟩:=(pre_head _).1 hh
    have:=(decL_all E.natAbs (by omega)).1
    rw [hr] at this
    revert this;simp [show isD 45 = false by decide]
 have htrim:Lib.trimPrefix b [45] = decL E.natAbs:=by
  unfold Lib.trimPrefix
  rw [hhas,eb]
  unfold szL
  by_cases hneg:E < 0
  ·rw [if_pos hneg,decide_eq_true hneg];simp
  ·rw [if_neg hneg,decide_eq_false hneg];simp
 have ek:E.natAbs = k:=by
  have:=num.ofDecV_dec E.natAbs (by omega)
  rw [← htrim,hk] at this
  exact (Option.some.inj this).symm
 have hsum:pl A + s + (if E < 0 then k else 0) = PP + (if E < 0 then 0 else k):=by
  rw [hPP];split <;> omega
 have hitr:itr (decide (E < 0)) k (fl m') = A:=by
  by_cases hneg:E < 0
  ·rw [decide_eq_true hneg]
   rw [if_pos hneg,if_pos hneg] at hsum
   have he:mg A * 2 ^ k = m' * 2 ^ PP:=by
    rw [← hmd,hs,Nat.mul_assoc,Nat.mul_assoc,← Nat.pow_add,← Nat.pow_add]
    congr 2;omega
   obtain ⟨_,h2⟩:=itr_down m' A k hm53 hI hmp he k (Nat.le_refl _)
   rw [Nat.sub_self,Nat.pow_zero,Nat.mul_one] at h2
   exact mg_inj h2
  ·rw [decide_eq_false hneg]
   rw [if_neg hneg,if_neg hneg] at hsum
   have he:m' * 2 ^ (PP + k) = mg A:=by
    rw [← hmd,hs,Nat.mul_assoc,← Nat.pow_add]
    congr 2;omega
   obtain ⟨_,h2⟩:=itr_up m' hm53 k (by rw [he];exact mg_top A hI)
   rw [he] at h2
   exact mg_inj h2
 have hfall:=(ofDecV_all hm).1
 have hdg:dg t = f.length:=by rw [htt];exact dg_p hfall
 have hf16:f.length ≤ 16:=by rw [ef];exact decL_len 15 m' (by omega) (by omega)
 have hf1:=(ofDecV_all hm).2.2.1
 have hget:t.getD (dg t) 0 = 112:=by rw [hdg,htt];simp
 have htl:t.length = f.length + 1 + b.length:=by rw [htt];simp;omega
 have hdrop:t.drop (dg t + 1) = b:=by rw [hdg,htt];simp
 have htake:t.take (dg t) = f:=by rw [hdg,htt];simp
 have hkl:(decL k).length ≤ 4:=decL_len 3 k (by omega) (by omega)
 have hk1:=(ofDecV_all hk).2.2.1
 have hkd:=dg_full.2 (ofDecV_all hk).1
 unfold rpowP
 rw [if_neg (by rw [hdg] at hget ⊢;rintro (h | h | h | h);omega;omega;omega;exact h hget),hdrop,htake]
 rw [if_neg (by rw [hkd,htrim,ek];rw [htrim,ek] at hk1;omega),hm,hk]
 simp only
 rw [hhas,hitr,txt_pos A hle,ht]
 simp
theorem dec_no_p {t:List UInt8} (h:decOkL t = true):(112:UInt8) ∉ t:=by
 intro hp
 rw [(p_bad hp).1] at h;cases h
theorem dig_no_pow {t:List UInt8} (h:(112:UInt8) ∉ t):powOkL t = false ∧ (rpowP t).2 = false:=by
 constructor
 ·cases hk:powOkL t with
  | false=>rfl
  | true =>
   obtain ⟨f,b,_,_,_,ht,_⟩:=pow_mem hk
   exact absurd (by rw [ht];simp) h
 ·cases hk:(rpowP t).2 with
  | false=>rfl
  | true=>exact absurd (rpow_shape hk).1 h
theorem body_nan {l:List UInt8} (h:bodyL l = nanL) (h1:l ≠ nanL):l = 45 :: nanL:=by
 cases hneg:Lib.hasPrefix l [45]
 ·have hb:bodyL l = l:=by unfold bodyL Lib.trimPrefix;rw [hneg];rfl
  rw [hb] at h;exact absurd h h1
 ·obtain ⟨t,rfl⟩:=(pre_head l).1 hneg
  have hb:bodyL (45 :: t) = t:=by unfold bodyL Lib.trimPrefix;rw [hneg];rfl
  rw [hb] at h;rw [h]
theorem body_inf {l:List UInt8} (h:bodyL l = infL) (h1:l ≠ infL):l = 45 :: infL:=by
 cases hneg:Lib.hasPrefix l [45]
 ·have hb:bodyL l = l:=by unfold bodyL Lib.trimPrefix;rw [hneg];rfl
  rw [hb] at h;exact absurd h h1
 ·obtain ⟨t,rfl⟩:=(pre_head l).1 hneg
  have hb:bodyL (45 :: t) = t:=by unfold bodyL Lib.trimPrefix;rw [hneg];rfl
  rw [hb] at h;rw [h]
theorem of_same (l:List UInt8):rofT l = ofT l:=by
 by_cases h1:l = nanL
 ·subst h1;decide +kernel
 by_cases h2:l = infL
 ·subst h2;decide +kernel
 by_cases h3:l = 45 :: infL
 ·subst h3;decide +kernel
 by_cases h4:bodyL l = nanL
 ·have:=body_nan h4 h1
  subst this;decide +kernel
 have h5:bodyL l ≠ infL:=fun h=>h3 (body_inf h h2)
 have e0:rofT l = (if decOkL (bodyL l) then some (signV l (decVL (bodyL l))) else if (rpowP (bodyL l)).2 then some (signV l (rpowP (bodyL l)).1) else if (rlongP (bodyL l)).2 then some (signV l (rlongP (bodyL l)).1) else none):=by
  unfold rofT;rw [if_neg h1,if_neg h2,if_neg h3]
 have hS:=sign_txt l
 have hP:=has_p l
 have hN:=no_p l
 rw [e0]
 unfold ofT
 generalize bodyL l = t at *
 cases hd:decOkL t
 ·rw [if_neg Bool.false_ne_true]
  cases ho:ofDecV t with
  | none =>
   have hlong:(rlongP t).2 = false:=by unfold rlongP;rw [ho];rfl
   have eb:bodyV t = if powOkL t then some (powVL t,true) else none:=by
    unfold bodyV;rw [hd,if_neg Bool.false_ne_true,if_neg h4,if_neg h5,ho]
   rw [hlong,eb]
   cases hk:powOkL t
   ·have:(rpowP t).2 = false:=by
     cases hr:(rpowP t).2 with
     | false=>rfl
     | true=>have:=(rpow_to hr).1;rw [hk] at this;cases this
    rw [this];rfl
   ·obtain ⟨f,b,m,k,_,htt,_,_,hm53,_,hv⟩:=pow_mem hk
    have hle:powVL t ≤ INF:=by rw [hv];exact ldz_lt _ _ (fl_lt m hm53)
    have hc:=hP (by rw [htt];simp)
    simp only [if_true]
    rw [hc,hS _ hle]
    cases hx:((txtP (powVL t)).data.toList == t)
    ·have:(rpowP t).2 = false:=by
      cases hr:(rpowP t).2 with
      | false=>rfl
      | true =>
       have:=(rpow_to hr).2.2
       rw [this] at hx
       simp at hx
     rw [this];rfl
    ·have:=rpow_from hk (by simpa using hx)
     rw [this];rfl
  | some x =>
   obtain ⟨o1,o2,o3,o4⟩:=ofDecV_all ho
   have hnp:(112:UInt8) ∉ t:=all_not o1 112 (by decide)
   obtain ⟨k1,k2⟩:=dig_no_pow hnp
   have htd:=ofDec_dec ho
   rw [k2]
   by_cases hx:x ≤ 9007199254740992
   ·have eb:bodyV t = some (fl x,false):=by
     unfold bodyV;rw [hd,if_neg Bool.false_ne_true,if_neg h4,if_neg h5,ho]
     simp only [hx,if_true]
    have h16:t.length = 16:=by
     have u1:t.length ≤ 16:=by rw [htd];exact decL_len 15 x (by omega) (by omega)
     have u2:¬ t.length ≤ 15:=by
      intro hle
      have:decOkL t = true:=by
       unfold decOkL
       rw [cutL_none (all_not o1 46 (by decide))]
       unfold decOk
       rw [(digB_iff t).2 ⟨o1,o3⟩]
       simp;omega
      rw [hd] at this;cases this
     omega
    have hlong:rlongP t = (fl x,true):=by
     unfold rlongP
     rw [(ofDec_yes ho).1,ho,h16]
     simp [hx]
    rw [hlong,eb]
    simp only [Bool.false_eq_true,if_false,if_true,Bool.not_false,Bool.true_or,Bool.true_and]
    rw [hS _ (fl_inf x),txtP_fl x hx,← htd]
    simp
   ·have eb:bodyV t = none:=by
     unfold bodyV;rw [hd,if_neg Bool.false_ne_true,if_neg h4,if_neg h5,ho]
     simp only [hx,if_false]
     rw [k1];rfl
    have hlong:(rlongP t).2 = false:=by
     unfold rlongP
     rw [(ofDec_yes ho).1]
     simp [hx]
    rw [hlong,eb]
    rfl
 ·rw [if_pos rfl]
  have eb:bodyV t = some (decVL t,true):=by unfold bodyV;rw [hd,if_pos rfl]
  rw [eb,hN (dec_no_p hd)]
  rfl
end Go.Proofs.YtmfpmandkhiknaaGreatDoor.flt
