/-
  Proved: that a number's text reads as the number (plain). Conditions: as each theorem says. No program is in sight.
  Proved: what the document's own digits and decimal return. Conditions: as each theorem says.
  Proved: what the document's own decimal returns at its ends (written by wip/bin/rdec.py). Conditions: as each theorem says.
-/
import Derived.Test.YtmfpmandkhiknaaGreatDoorPw5
import Derived.Test.YtmfpmandkhiknaaGreatDoorPw9
set_option linter.unusedVariables false
set_option linter.unusedSimpArgs false
namespace Go.Proofs.YtmfpmandkhiknaaGreatDoor.flt
open Go.RowKit Ieee
open num (ofDecV ofDecF ofDecBad decL decS decF_len ofDecV_dec)
set_option maxRecDepth 100000
theorem ofDecF_all:∀ (l:List UInt8) (x y:Nat),ofDecF l x = some y → l.all isD = true ∧ l.foldl (fun x c=>x * 10 + (c.toNat - 48)) x = y
 | [],x,y,h=>by simp [ofDecF] at h;exact ⟨rfl,h⟩
 | c :: l,x,y,h=>by
  rw [ofDecF] at h
  split at h
  ·cases h
  ·rename_i hc
   have:=ofDecF_all l _ y h
   refine ⟨?_,?_⟩
   ·rw [List.all_cons,this.1,Bool.and_true]
    unfold isD
    rw [Bool.and_eq_true,decide_eq_true_iff,decide_eq_true_iff]
    omega
   ·rw [List.foldl_cons,Nat.mul_comm x 10];exact this.2
theorem ofDecV_all {l:List UInt8} {y:Nat} (h:ofDecV l = some y):l.all isD = true ∧ numL l = y ∧ 1 ≤ l.length ∧ l.length ≤ 20:=by
 unfold ofDecV at h
 split at h
 ·cases h
 ·rename_i hb
  have hb':ofDecBad l = false:=by simpa using hb
  have h2:=ofDecF_all l 0 y h
  refine ⟨h2.1,h2.2,?_⟩
  unfold ofDecBad at hb'
  simp only [Bool.or_eq_false_iff,decide_eq_false_iff_not] at hb'
  omega
theorem decL_all (x:Nat) (hx:x < 18446744073709551616):(decL x).all isD = true ∧ numL (decL x) = x ∧ 1 ≤ (decL x).length:=by
 have:=ofDecV_all (ofDecV_dec x hx)
 exact ⟨this.1,this.2.1,this.2.2.1⟩
theorem all_not {l:List UInt8} (h:l.all isD = true) (c:UInt8) (hc:isD c = false):c ∉ l:=by
 intro hm
 have:=List.all_eq_true.1 h c hm
 rw [hc] at this;cases this
theorem cutL_none {c:UInt8} {l:List UInt8} (h:c ∉ l):cutL c l = (l,[],false):=by
 rcases cutL_cases c l with ⟨_,h2⟩ | ⟨a,b,_,h2,_⟩
 ·exact h2
 ·exfalso;apply h;rw [h2];simp
theorem cutL_some {c:UInt8} {a b:List UInt8} (h:c ∉ a):cutL c (a ++ c :: b) = (a,b,true):=by
 induction a with
 | nil=>simp [cutL]
 | cons x r ih =>
  rw [List.mem_cons,not_or] at h
  rw [List.cons_append,cutL,if_neg (fun e=>h.1 e.symm),ih h.2]
theorem quo_one (a:Nat) (ha:a < INF):fop .quo a one = some a:=by
 have hq:PP = 52 + pl one:=by rw [hPP,one_ok.2.2]
 have h:=quo_exact a one a (pfin a ha).1 one_ok.1 one_ok.2.1 ha (by
  rw [(pfin a ha).2.1,hq])
 rw [h,(pfin a ha).2.2];rfl
theorem fl_one:fl 1 = one:=by decide +kernel
theorem fl_whole (a:Nat) (ha:a < INF) (hw:isW a = true):fl (tr a) = a:=by
 have h64:a < 18446744073709551616:=by unfold INF at ha;omega
 obtain ⟨h1,h2⟩:=Bool.and_eq_true_iff.1 (show (inW a && eqB a (trunc a)) = true from hw)
 have hf:=(pfin a ha).1
 obtain ⟨f1,f2⟩:=fin_trunc a h64 h1
 rw [eqB_fin a _ hf f1,decide_eq_true_iff,f2,pval a ha,(pfin a ha).2.2] at h2
 have h3:mg a = tr a * 2 ^ PP:=by
  have:(mg a:Int) = ((tr a * 2 ^ PP:Nat):Int):=h2
  exact Int.ofNat.inj this
 unfold fl
 rw [near_int,← h3,nr_mg a ha];rfl
theorem strip_mul (f m:Nat):m = (strip f m).1 * 2 ^ (strip f m).2:=by
 induction f generalizing m with
 | zero=>simp [strip]
 | succ f ih =>
  unfold strip
  split
  ·have:=ih (m / 2)
   show m = (strip f (m / 2)).1 * 2 ^ ((strip f (m / 2)).2 + 1)
   rw [Nat.pow_succ,← Nat.mul_assoc,← this]
   omega
  ·simp
theorem mg_fl (n:Nat) (h:n ≤ 9007199254740992):mg (fl n) = n * 2 ^ PP:=by
 have e:fl n = nr (n * 2 ^ PP):=by unfold fl;rw [near_int,wd_false]
 rw [e]
 exact (rep_int n h).2
theorem ldz_parts (a:Nat) (h0:0 < a) (ha:a < INF):ldz (fl (strip 64 (sg a)).1) ((pl a:Int) - 1074 + (strip 64 (sg a)).2) = a:=by
 have hb:=txtM_bd a ha
 have hs:=strip_mul 64 (sg a)
 have hm:=mg_def a
 have hp:=mg_pos a h0
 generalize (strip 64 (sg a)).1 = m at *
 generalize (strip 64 (sg a)).2 = k at *
 have hm0:0 < m:=by
  rcases Nat.eq_zero_or_pos m with h | h
  ·rw [h,Nat.zero_mul] at hs;rw [hs,Nat.zero_mul] at hm;omega
  ·exact h
 have hfl:=fl_pos m hm0 (by omega)
 unfold ldz
 rw [if_neg (by omega)]
 refine ldx_ok _ _ _ hfl.2 hfl.1 ha ?_
 unfold Scaled
 rw [mg_fl m (by omega),← hm,hs]
 have hq:=hPP
 generalize PP = q at *
 generalize pl a = p
 rw [Nat.mul_assoc,Nat.mul_assoc,Nat.mul_assoc,← Nat.pow_add,← Nat.pow_add,← Nat.pow_add]
 congr 2
 omega
theorem whole_tr (a:Nat) (ha:a < INF) (hw:isW a = true):wholeN a = (tr a:Int) ∧ tr a ≤ 9007199254740992:=by
 have h64:a < 18446744073709551616:=by unfold INF at ha;omega
 obtain ⟨h1,h2⟩:=Bool.and_eq_true_iff.1 (show (inW a && eqB a (trunc a)) = true from hw)
 refine ⟨?_,tr_le a h64 h1⟩
 unfold wholeN trI
 rw [hw,(pfin a ha).2.2]
 simp
theorem bodyV_digits (n:Nat) (h:n ≤ 9007199254740992):∃ is,bodyV (decL n) = some (fl n,is):=by
 obtain ⟨h1,h2,h3⟩:=decL_all n (by omega)
 have hc:cutL 46 (decL n) = (decL n,[],false):=cutL_none (all_not h1 46 (by decide))
 by_cases hl:(decL n).length ≤ 15
 ·refine ⟨true,?_⟩
  have hd:decOkL (decL n) = true:=by
   unfold decOkL
   rw [hc]
   unfold decOk digB
   rw [h1]
   have:(decL n).isEmpty = false:=by cases hx:decL n with
    | nil=>rw [hx] at h3;simp at h3
    | cons _ _=>rfl
   rw [this]
   simp;omega
  have hv:decVL (decL n) = fl n:=by
   unfold decVL decV
   rw [show decOk (cutL 46 (decL n)).1 (cutL 46 (decL n)).2.1 (cutL 46 (decL n)).2.2 = true from hd,if_pos rfl,hc]
   unfold decQ
   rw [List.append_nil,h2]
   show (fop .quo (fl n) (fl 1)).getD 0 = _
   rw [fl_one,quo_one _ (fl_lt n h)];rfl
  unfold bodyV
  rw [hd,if_pos rfl,hv]
 ·refine ⟨false,?_⟩
  have hd:decOkL (decL n) = false:=by
   unfold decOkL
   rw [hc]
   unfold decOk
   have:decide ((decL n).length + ([]:List UInt8).length ≤ 15) = false:=decide_eq_false (by simp;omega)
   rw [this,Bool.and_false]
  have hn:decL n ≠ nanL:=by intro e;rw [e] at h1;revert h1;decide
  have hi:decL n ≠ infL:=by intro e;rw [e] at h1;revert h1;decide
  unfold bodyV
  rw [hd,if_neg Bool.false_ne_true,if_neg hn,if_neg hi,ofDecV_dec n (by omega)]
  simp only [h,if_true]
def szL (x:Int):List UInt8:=if x < 0 then 45 :: decL x.natAbs else decL x.natAbs
theorem szS_list (x:Int):(szS x).data.toList = szL x:=by
 unfold szS szL
 split
 ·rw [ByteArray.data_append,Array.toList_append];rfl
 ·rfl
theorem bodyV_parts (m:Nat) (e:Int) (hm:m ≤ 9007199254740992) (he1 : -2000 ≤ e) (he2:e ≤ 2000):bodyV (decL m ++ 112 :: szL e) = some (ldz (fl m) e,true):=by
 obtain ⟨h1,h2,h3⟩:=decL_all m (by omega)
 obtain ⟨k1,k2,k3⟩:=decL_all e.natAbs (by omega)
 have hp:(112:UInt8) ∈ decL m ++ 112 :: szL e:=by simp
 have hna:¬ (decL m ++ 112 :: szL e).all isD = true:=fun h=>all_not h 112 (by decide) hp
 have h46:(46:UInt8) ∉ decL m ++ 112 :: szL e:=by
  rw [List.mem_append,List.mem_cons]
  have a1:=all_not h1 46 (by decide)
  have a2:(46:UInt8) ∉ szL e:=by
   unfold szL
   split
   ·rw [List.mem_cons,not_or];exact ⟨by decide,all_not k1 46 (by decide)⟩
   ·exact all_not k1 46 (by decide)
  intro h
  rcases h with h | h | h
  ·exact a1 h
  ·revert h;decide
  ·exact a2 h
 have hd:decOkL (decL m ++ 112 :: szL e) = false:=by
  unfold decOkL
  rw [cutL_none h46]
  unfold decOk digB
  have:(decL m ++ 112 :: szL e).all isD = false:=by simpa using hna
  rw [this,Bool.and_false];rfl
 have hn:decL m ++ 112 :: szL e ≠ nanL:=by intro h;rw [h] at hp;revert hp;decide
 have hi:decL m ++ 112 :: szL e ≠ infL:=by intro h;rw [h] at hp;revert hp;decide
 have ho:ofDecV (decL m ++ 112 :: szL e) = none:=by
  cases h:ofDecV (decL m ++ 112 :: szL e) with
  | none=>rfl
  | some y=>exact absurd (ofDecV_all h).1 hna
 have hcut:cutL 112 (decL m ++ 112 :: szL e) = (decL m,szL e,true):=cutL_some (all_not h1 112 (by decide))
 have hpow:powR (decL m) (szL e) true = some (ldz (fl m) e):=by
  unfold powR
  rw [if_pos rfl,ofDecV_dec m (by omega)]
  have hhead:∀ l:List UInt8,l.all isD = true → Lib.hasPrefix l [45] = false:=by
   intro l hl
   cases l with
   | nil=>rfl
   | cons c r =>
    have:c ≠ 45:=by intro h;subst h;revert hl;rw [List.all_cons];simp [show isD 45 = false by decide]
    unfold Lib.hasPrefix
    simp [List.isPrefixOf]
    exact fun h=>this h.symm
  by_cases hneg:e < 0
  ·have e1:szL e = 45 :: decL e.natAbs:=by unfold szL;rw [if_pos hneg]
   have e2:Lib.hasPrefix (szL e) [45] = true:=by rw [e1];simp [Lib.hasPrefix,List.isPrefixOf]
   have e3:Lib.trimPrefix (szL e) [45] = decL e.natAbs:=by unfold Lib.trimPrefix;rw [e2,e1];simp
   rw [e3,e2,ofDecV_dec _ (by omega)]
   have:(m ≤ 9007199254740992 ∧ e.natAbs ≤ 2000):=by omega
   simp only [this,and_self,if_true]
   congr 2;omega
  ·have e1:szL e = decL e.natAbs:=by unfold szL;rw [if_neg hneg]
   have e2:Lib.hasPrefix (szL e) [45] = false:=by rw [e1];exact hhead _ k1
   have e3:Lib.trimPrefix (szL e) [45] = decL e.natAbs:=by unfold Lib.trimPrefix;rw [e2,e1];simp
   rw [e3,e2,ofDecV_dec _ (by omega)]
   have:(m ≤ 9007199254740992 ∧ e.natAbs ≤ 2000):=by omega
   simp only [this,and_self,if_true,Bool.false_eq_true,if_false]
   congr 2;omega
 have hpo:powOkL (decL m ++ 112 :: szL e) = true:=by unfold powOkL powOk;rw [hcut];simp only;rw [hpow];rfl
 have hpv:powVL (decL m ++ 112 :: szL e) = ldz (fl m) e:=by unfold powVL powV;rw [hcut];simp only;rw [hpow];rfl
 unfold bodyV
 rw [hd,if_neg Bool.false_ne_true,if_neg hn,if_neg hi,ho,hpo,hpv]
 rfl
theorem bodyV_txtP (a:Nat) (ha:a ≤ INF):∃ is,bodyV (txtP a).data.toList = some (a,is):=by
 have hI:INF = 9218868437227405312:=rfl
 by_cases hi:INF ≤ a
 ·have:a = INF:=by omega
  subst this
  refine ⟨false,?_⟩
  decide +kernel
 ·cases hw:isW a
  ·have e:(txtP a).data.toList = decL (strip 64 (sg a)).1 ++ 112 :: szL ((pl a:Int) - 1074 + (strip 64 (sg a)).2):=by
    unfold txtP
    rw [if_neg hi,hw]
    simp only [Bool.false_eq_true,if_false]
    unfold txtM
    rw [ByteArray.data_append,ByteArray.data_append,Array.toList_append,Array.toList_append,szS_list]
    simp [decS]
   have h0:0 < a:=by
    rcases Nat.eq_zero_or_pos a with rfl | h0
    ·rw [whole_zero] at hw;cases hw
    ·exact h0
   have hb:=txtM_bd a (by omega)
   have hk:=(strip_le 64 (sg a)).2
   have hp:=pl_le a (by omega)
   rw [e,bodyV_parts _ _ (by omega) (by omega) (by omega),ldz_parts a h0 (by omega)]
   exact ⟨true,rfl⟩
  ·obtain ⟨h1,h2⟩:=whole_tr a (by omega) hw
   have e:(txtP a).data.toList = decL (tr a):=by
    unfold txtP
    rw [if_neg hi,hw,if_pos rfl,szS_list,h1]
    unfold szL
    rw [if_neg (by omega)]
    rfl
   obtain ⟨is,h3⟩:=bodyV_digits (tr a) h2
   rw [e,h3,fl_whole a (by omega) hw]
   exact ⟨is,rfl⟩
end Go.Proofs.YtmfpmandkhiknaaGreatDoor.flt
namespace Go.Proofs.YtmfpmandkhiknaaGreatDoor.flt
open Go.RowKit Ieee
open num (list_len drop_cons)
set_option maxRecDepth 100000
def dg (l:List UInt8):Nat:=(l.takeWhile isD).length
theorem dg_yes {c:UInt8} {l:List UInt8} (h:isD c = true):dg (c :: l) = dg l + 1:=by simp [dg,h]
theorem dg_no {c:UInt8} {l:List UInt8} (h:isD c = false):dg (c :: l) = 0:=by simp [dg,h]
theorem dg_app {f r:List UInt8} (h:f.all isD = true):dg (f ++ r) = f.length + dg r:=by
 induction f with
 | nil=>simp
 | cons c f ih =>
  rw [List.all_cons,Bool.and_eq_true] at h
  rw [List.cons_append,dg_yes h.1,ih h.2,List.length_cons];omega
theorem dg_split (l:List UInt8):∃ f r,l = f ++ r ∧ f.all isD = true ∧ f.length = dg l ∧ (r = [] ∨ ∃ c r',r = c :: r' ∧ isD c = false):=by
 induction l with
 | nil=>exact ⟨[],[],rfl,rfl,rfl,.inl rfl⟩
 | cons c l ih =>
  cases h:isD c
  ·exact ⟨[],c :: l,rfl,rfl,(dg_no h).symm,.inr ⟨c,l,rfl,h⟩⟩
  ·obtain ⟨f,r,h1,h2,h3,h4⟩:=ih
   exact ⟨c :: f,r,by rw [h1];rfl,by rw [List.all_cons,h,h2];rfl,by rw [dg_yes h,List.length_cons,h3],h4⟩
theorem dg_le (l:List UInt8):dg l ≤ l.length:=by
 obtain ⟨f,r,h1,_,h3,_⟩:=dg_split l
 rw [← h3,h1];simp
theorem dg_full {l:List UInt8}:dg l = l.length ↔ l.all isD = true:=by
 constructor
 ·intro h
  obtain ⟨f,r,h1,h2,h3,_⟩:=dg_split l
  rw [h,h1,List.length_append] at h3
  have:r = []:=List.eq_nil_of_length_eq_zero (by omega)
  rw [h1,this,List.append_nil];exact h2
 ·intro h
  have:=dg_app (r := []) h
  rw [List.append_nil] at this
  rw [this];rfl
theorem isD_iff (c:UInt8):isD c = true ↔ 48 ≤ (c.toNat:Int) ∧ (c.toNat:Int) ≤ 57:=by
 unfold isD
 rw [Bool.and_eq_true,decide_eq_true_iff,decide_eq_true_iff]
 omega
theorem ret_i {a b:Int} (h:a = b):Ending.returned (.int .i64 a) = .returned (.int .i64 b):=by rw [h]
set_option maxHeartbeats 400000 in
theorem rdigits_any (s:ByteArray) (a:Nat) (w:World) (ha:a ≤ s.size) (hs:s.size ≤ 1000000000000000001) :
  Calls Tryz.prog 197 #[.string s,.int .i64 a] w fun e w'=>e = .returned (.int .i64 (dg (s.data.toList.drop a))) ∧ w = w':=by
 go_enter Tryz.func197,Tryz.ntmps197
 go_wp2_with fail
 go_loop [5] (fun i=>∃ k:Nat,i = .int .i64 ((a + k:Nat):Int) ∧ a + k ≤ s.size ∧ dg (s.data.toList.drop a) = k + dg (s.data.toList.drop (a + k))) (fun i=>s.size - (intOf i).toNat)
 case atStart=>exact ⟨0,by simp,by omega,by simp⟩
 case round =>
  obtain ⟨k,rfl,hk,hd⟩:=hrel
  have HD:=Lib.hid hd
  clear hd
  by_cases hlt:a + k < s.size
  ·have HC:=Lib.hid (drop_cons s (a + k) hlt)
   by_cases hc:isD s[a + k] = true
   ·have h1:=(isD_iff _).1 hc
    have HN:Hid (dg (s.data.toList.drop a) = (k + 1) + dg (s.data.toList.drop (a + (k + 1)))):=by
     unfold Hid;rw [HD.out,HC.out,dg_yes hc];simp only [Nat.add_assoc];omega
    obtain ⟨h2,h3⟩:=h1
    clear hc
    generalize ha2:a + k = j at *
    have HJ:=Lib.hid ha2
    clear ha2
    go_wp2_with fail
    go_round
    case rel=>exact ⟨k + 1,by rw [← Nat.add_assoc,HJ.out];go_num,by have:=HJ.out;omega,HN.out⟩
    case measure=>simp [intOf];omega
   ·have h1:¬ (48 ≤ (s[a + k].toNat:Int) ∧ (s[a + k].toNat:Int) ≤ 57):=fun h=>hc ((isD_iff _).2 h)
    have HN:Hid (dg (s.data.toList.drop a) = k):=by
     unfold Hid;rw [HD.out,HC.out,dg_no (by simpa using hc)];rfl
    clear hc
    by_cases h2:48 ≤ (s[a + k].toNat:Int)
    ·have h3:¬ (s[a + k].toNat:Int) ≤ 57:=fun h=>h1 ⟨h2,h⟩
     clear h1
     generalize ha2:a + k = j at *
     have HJ:=Lib.hid ha2
     clear ha2
     have hle:a ≤ j:=by have:=HJ.out;omega
     go_wp2_with fail
     go_ret
     exact ⟨ret_i (by rw [HN.out,← HJ.out];omega),rfl⟩
    ·clear h1
     generalize ha2:a + k = j at *
     have HJ:=Lib.hid ha2
     clear ha2
     have hle:a ≤ j:=by have:=HJ.out;omega
     go_wp2_with fail
     go_ret
     exact ⟨ret_i (by rw [HN.out,← HJ.out];omega),rfl⟩
  ·have HN:Hid (dg (s.data.toList.drop a) = k):=by
    unfold Hid;rw [HD.out,List.drop_eq_nil_of_le (by rw [list_len];omega)];rfl
   generalize ha2:a + k = j at *
   have HJ:=Lib.hid ha2
   clear ha2
   have hle:a ≤ j:=by have:=HJ.out;omega
   go_wp2_with fail
   go_ret
   exact ⟨ret_i (by rw [HN.out,← HJ.out];omega),rfl⟩
theorem rdec_bad (S:ByteArray) (k:Nat) (w:World) (hz:S.size ≤ 1000000000000000001) (hk:k < S.size) (hne:((S[k].toNat:Int) == 46) = false)
  (HD:Hid (∀ W,Calls Tryz.prog 197 #[.string S,.int .i64 0] W fun e w'=>e = .returned (.int .i64 (k:Nat)) ∧ W = w')) :
  Calls Tryz.prog 179 #[.string S] w fun e w'=>e = .returned (.tuple #[fv 0,.bool false]) ∧ w = w':=by
 have h1:¬ k = S.size:=by omega
 go_enter Tryz.func179,Tryz.ntmps179
 go_wp2_with (go_at_call 197;refine (HD.out _).mono ?_;rintro e w1 ⟨rfl,rfl⟩)
 go_ret2
 exact ⟨rfl,rfl⟩
theorem rdec_less (S:ByteArray) (k m:Nat) (w:World) (hz:S.size ≤ 1000000000000000001) (hk:k < S.size) (hne:((S[k].toNat:Int) == 46) = true)
  (HD:Hid (∀ W,Calls Tryz.prog 197 #[.string S,.int .i64 0] W fun e w'=>e = .returned (.int .i64 (k:Nat)) ∧ W = w'))
  (HE:Hid (∀ W,Calls Tryz.prog 197 #[.string S,.int .i64 ((k:Int) + 1)] W fun e w'=>e = .returned (.int .i64 (m:Nat)) ∧ W = w')) (hm:m ≤ S.size) (h:m = 0 ∨ k + 1 + m ≠ S.size) :
  Calls Tryz.prog 179 #[.string S] w fun e w'=>e = .returned (.tuple #[fv 0,.bool false]) ∧ w = w':=by
 by_cases h0:m = 0
 ·subst h0
  clear h
  go_enter Tryz.func179,Tryz.ntmps179
  go_wp2_with (go_at_call 197;first | ((with_reducible refine (HD.out _).mono ?_);rintro e w1 ⟨rfl,rfl⟩) | ((with_reducible refine (HE.out _).mono ?_);rintro e w1 ⟨rfl,rfl⟩))
  go_ret2
  exact ⟨rfl,rfl⟩
 ·have h1:¬ (k:Int) + 1 + m = S.size:=by omega
  have h2:((m:Int) == 0) = false:=beq_eq_false_iff_ne.2 (by omega)
  clear h
  go_enter Tryz.func179,Tryz.ntmps179
  go_wp2_with (go_at_call 197;first | ((with_reducible refine (HD.out _).mono ?_);rintro e w1 ⟨rfl,rfl⟩) | ((with_reducible refine (HE.out _).mono ?_);rintro e w1 ⟨rfl,rfl⟩))
  go_ret2
  exact ⟨rfl,rfl⟩
end Go.Proofs.YtmfpmandkhiknaaGreatDoor.flt
namespace Go.Proofs.YtmfpmandkhiknaaGreatDoor.flt
open Go.RowKit Ieee
set_option maxRecDepth 100000
theorem get_list {SS:ByteArray} {L:List UInt8} (h:SS.data.toList = L) (j:Nat) (hj:j < SS.size):L.getD j 0 = SS[j]:=by
 subst h
 rw [List.getD_eq_getElem?_getD,List.getElem?_eq_getElem (by simpa using hj)]
 rfl
set_option maxHeartbeats 1000000 in
theorem rdec_no0_pt (S SS:ByteArray) (k m:Nat) (w:World) (hz:S.size ≤ 1000000000000000001) (hk:k < S.size) (hne:((S[k].toNat:Int) == 46) = true) (hm0:0 < m) (hsz:k + 1 + m = S.size) (hext:S.extract 0 k ++ S.extract (k + 1) S.size = SS)
  (HD:Hid (∀ W,Calls Tryz.prog 197 #[.string S,.int .i64 0] W fun e w'=>e = .returned (.int .i64 (k:Nat)) ∧ W = w'))
  (HE:Hid (∀ W,Calls Tryz.prog 197 #[.string S,.int .i64 ((k:Int) + 1)] W fun e w'=>e = .returned (.int .i64 (m:Nat)) ∧ W = w'))
  (h0:k = 0) :
  Calls Tryz.prog 179 #[.string S] w fun e w'=>e = .returned (.tuple #[fv 0,.bool false]) ∧ w = w':=by
 have e1:(k:Int) + 1 + m = S.size:=by omega
 have h2:((m:Int) == 0) = false:=beq_eq_false_iff_ne.2 (by omega)
 have hx1:(S.extract 0 k).size ≤ S.size:=by rw [ByteArray.size_extract];omega
 have hx2:(S.extract (k + 1) S.size).size ≤ S.size:=by rw [ByteArray.size_extract];omega
 have hx3:(S.extract 0 k).size + (S.extract (k + 1) S.size).size ≤ 2000000000000000002:=by omega
 have h00:((k:Int) == 0) = true:=beq_iff_eq.2 (by omega)
 clear h0
 go_enter Tryz.func179,Tryz.ntmps179
 go_wp2_with (go_at_call 197;first | ((with_reducible refine (HD.out _).mono ?_);rintro e w1 ⟨rfl,rfl⟩) | ((with_reducible refine (HE.out _).mono ?_);rintro e w1 ⟨rfl,rfl⟩))
 go_ret2
 exact ⟨rfl,rfl⟩
set_option maxHeartbeats 1000000 in
theorem rdec_no1_pt (S SS:ByteArray) (k m:Nat) (w:World) (hz:S.size ≤ 1000000000000000001) (hk:k < S.size) (hne:((S[k].toNat:Int) == 46) = true) (hm0:0 < m) (hsz:k + 1 + m = S.size) (hext:S.extract 0 k ++ S.extract (k + 1) S.size = SS)
  (HD:Hid (∀ W,Calls Tryz.prog 197 #[.string S,.int .i64 0] W fun e w'=>e = .returned (.int .i64 (k:Nat)) ∧ W = w'))
  (HE:Hid (∀ W,Calls Tryz.prog 197 #[.string S,.int .i64 ((k:Int) + 1)] W fun e w'=>e = .returned (.int .i64 (m:Nat)) ∧ W = w'))
  (h0:0 < k) (h15:15 < SS.size) :
  Calls Tryz.prog 179 #[.string S] w fun e w'=>e = .returned (.tuple #[fv 0,.bool false]) ∧ w = w':=by
 have e1:(k:Int) + 1 + m = S.size:=by omega
 have h2:((m:Int) == 0) = false:=beq_eq_false_iff_ne.2 (by omega)
 have hx1:(S.extract 0 k).size ≤ S.size:=by rw [ByteArray.size_extract];omega
 have hx2:(S.extract (k + 1) S.size).size ≤ S.size:=by rw [ByteArray.size_extract];omega
 have hx3:(S.extract 0 k).size + (S.extract (k + 1) S.size).size ≤ 2000000000000000002:=by omega
 have h00:((k:Int) == 0) = false:=beq_eq_false_iff_ne.2 (by omega)
 go_enter Tryz.func179,Tryz.ntmps179
 go_wp2_with (go_at_call 197;first | ((with_reducible refine (HD.out _).mono ?_);rintro e w1 ⟨rfl,rfl⟩) | ((with_reducible refine (HE.out _).mono ?_);rintro e w1 ⟨rfl,rfl⟩))
 go_ret2
 exact ⟨rfl,rfl⟩
set_option maxHeartbeats 1000000 in
theorem rdec_yes_pt (S SS:ByteArray) (k m:Nat) (w:World) (hz:S.size ≤ 1000000000000000001) (hk:k < S.size) (hne:((S[k].toNat:Int) == 46) = true) (hm0:0 < m) (hsz:k + 1 + m = S.size) (hext:S.extract 0 k ++ S.extract (k + 1) S.size = SS)
  (HD:Hid (∀ W,Calls Tryz.prog 197 #[.string S,.int .i64 0] W fun e w'=>e = .returned (.int .i64 (k:Nat)) ∧ W = w'))
  (HE:Hid (∀ W,Calls Tryz.prog 197 #[.string S,.int .i64 ((k:Int) + 1)] W fun e w'=>e = .returned (.int .i64 (m:Nat)) ∧ W = w'))
  (q:Nat) (L:List UInt8) (h0:0 < k) (h15:SS.size ≤ 15) (hL:SS.data.toList = L) (hall:L.all isD = true) (hm:m ≤ 15) (hq:fop .quo (fl (numL L)) (fl (10 ^ m)) = some q) :
  Calls Tryz.prog 179 #[.string S] w fun e w'=>e = .returned (.tuple #[fv q,.bool true]) ∧ w = w':=by
 have e1:(k:Int) + 1 + m = S.size:=by omega
 have h2:((m:Int) == 0) = false:=beq_eq_false_iff_ne.2 (by omega)
 have hx1:(S.extract 0 k).size ≤ S.size:=by rw [ByteArray.size_extract];omega
 have hx2:(S.extract (k + 1) S.size).size ≤ S.size:=by rw [ByteArray.size_extract];omega
 have hx3:(S.extract 0 k).size + (S.extract (k + 1) S.size).size ≤ 2000000000000000002:=by omega
 have h00:((k:Int) == 0) = false:=beq_eq_false_iff_ne.2 (by omega)
 have HL:=Lib.hid hL
 have HA:=Lib.hid hall
 have HQ:=Lib.hid hq
 have HLL:Hid (L.length = SS.size):=by unfold Hid;rw [← hL];simp
 clear hL hall hq
 go_enter Tryz.func179,Tryz.ntmps179
 go_wp2_with (go_at_call 197;first | ((with_reducible refine (HD.out _).mono ?_);rintro e w1 ⟨rfl,rfl⟩) | ((with_reducible refine (HE.out _).mono ?_);rintro e w1 ⟨rfl,rfl⟩))
 go_loop [7,9] (fun x i=>∃ j:Nat,i = .int .i64 j ∧ j ≤ SS.size ∧ x = fv (fl (numL (L.take j)))) (fun _ i=>SS.size - (intOf i).toNat)
 case atStart=>exact ⟨0,rfl,Nat.zero_le _,congrArg fv zero_fl⟩
 case round =>
  obtain ⟨j,rfl,hj,rfl⟩:=hrel
  by_cases hlt:j < SS.size
  ·have hX:=numL_bd14 L HA.out (by rw [HLL.out];exact h15) j (by rw [HLL.out];exact hlt)
   have hcd:=isD_at HA.out j (by rw [HLL.out];exact hlt)
   have HT:=Lib.hid (take_getD L j (by rw [HLL.out];exact hlt))
   have HN:=Lib.hid (numL_snoc (L.take j) (L.getD j 0))
   rw [get_list HL.out j hlt] at hcd HT HN
   generalize hX2:numL (L.take j) = X at *
   have hc1:=hcd.1
   have hc2:=hcd.2
   clear hcd
   have e1:(SS[j].toNat:Int) - 48 = ((SS[j].toNat - 48:Nat):Int):=by omega
   have hfi:floatOfInt .f64 ((SS[j].toNat:Int) - 48) = fl (SS[j].toNat - 48):=by rw [e1,floatOfInt_nat]
   have hmul:=fun W=>run_float_arith (P:=Tryz.prog) W .mul 45 .f64 (fl X) 4621819117588971520 (fl (X * 10)) (by rw [ten_fl];exact mul_int X 10 (by omega) (by omega))
   have hadd:=fun W=>run_float_arith (P:=Tryz.prog) W .add 45 .f64 (fl (X * 10)) (fl (SS[j].toNat - 48)) (fl (X * 10 + (SS[j].toNat - 48))) (add_int (X * 10) (SS[j].toNat - 48) (by omega) (by omega))
   have HX:Hid (fl (X * 10 + (SS[j].toNat - 48)) = fl (numL (L.take (j + 1)))):=by rw [Hid,HT.out,HN.out]
   clear hX HN HT hX2 e1
   generalize fl (X * 10 + (SS[j].toNat - 48)) = x2 at *
   generalize fl (SS[j].toNat - 48) = d at *
   generalize fl (X * 10) = x1 at *
   generalize fl X = x at *
   go_wp2_with fail
   go_round
   case rel=>exact ⟨j + 1,by go_num,by omega,by rw [HX.out]⟩
   case measure=>simp [intOf];omega
  ·obtain rfl:j = SS.size:=by omega
   have HTL:Hid (L.take SS.size = L):=by rw [Hid,← HLL.out,List.take_length]
   rw [HTL.out]
   generalize fl (numL L) = x at *
   go_wp2_with fail
   go_loop [8,10] (fun y i=>∃ j:Nat,i = .int .i64 j ∧ j ≤ m ∧ y = fv (fl (10 ^ j))) (fun _ i=>m - (intOf i).toNat)
   case atStart=>exact ⟨0,rfl,Nat.zero_le _,congrArg fv (by rw [Nat.pow_zero];exact one_fl)⟩
   case round =>
    obtain ⟨j,rfl,hj2,rfl⟩:=hrel
    by_cases hlt2:j < m
    ·have hP:=pow_le15 j (by omega)
     have hmul2:=fun W=>run_float_arith (P:=Tryz.prog) W .mul 45 .f64 (fl (10 ^ j)) 4621819117588971520 (fl (10 ^ j * 10)) (by rw [ten_fl];exact mul_int _ 10 (by omega) (by omega))
     have HY:Hid (fl (10 ^ j * 10) = fl (10 ^ (j + 1))):=by rw [Hid,← Nat.pow_succ]
     clear hP
     generalize fl (10 ^ j * 10) = y2 at *
     generalize fl (10 ^ j) = y at *
     go_wp2_with fail
     go_round
     case rel=>exact ⟨j + 1,by go_num,by omega,by rw [HY.out]⟩
     case measure=>simp [intOf];omega
    ·obtain rfl:m = j:=by omega
     have hquo:=fun W=>run_float_arith (P:=Tryz.prog) W .quo 45 .f64 x (fl (10 ^ m)) q HQ.out
     generalize fl (10 ^ m) = y at *
     go_wp2_with fail
     go_ret2
     exact ⟨rfl,rfl⟩
set_option maxHeartbeats 1000000 in
theorem rdec_no0_np (S SS:ByteArray) (k m:Nat) (w:World) (hz:S.size ≤ 1000000000000000001) (hk:k = S.size) (hm0:m = 0) (hext:S.extract 0 k = SS)
  (HD:Hid (∀ W,Calls Tryz.prog 197 #[.string S,.int .i64 0] W fun e w'=>e = .returned (.int .i64 (k:Nat)) ∧ W = w'))
  (h0:k = 0) :
  Calls Tryz.prog 179 #[.string S] w fun e w'=>e = .returned (.tuple #[fv 0,.bool false]) ∧ w = w':=by
 subst hk hm0
 have h00:((S.size:Int) == 0) = true:=beq_iff_eq.2 (by omega)
 clear h0
 go_enter Tryz.func179,Tryz.ntmps179
 go_wp2_with (go_at_call 197;refine (HD.out _).mono ?_;rintro e w1 ⟨rfl,rfl⟩)
 go_ret2
 exact ⟨rfl,rfl⟩
set_option maxHeartbeats 1000000 in
theorem rdec_no1_np (S SS:ByteArray) (k m:Nat) (w:World) (hz:S.size ≤ 1000000000000000001) (hk:k = S.size) (hm0:m = 0) (hext:S.extract 0 k = SS)
  (HD:Hid (∀ W,Calls Tryz.prog 197 #[.string S,.int .i64 0] W fun e w'=>e = .returned (.int .i64 (k:Nat)) ∧ W = w'))
  (h0:0 < k) (h15:15 < SS.size) :
  Calls Tryz.prog 179 #[.string S] w fun e w'=>e = .returned (.tuple #[fv 0,.bool false]) ∧ w = w':=by
 subst hk hm0
 have h00:((S.size:Int) == 0) = false:=beq_eq_false_iff_ne.2 (by omega)
 go_enter Tryz.func179,Tryz.ntmps179
 go_wp2_with (go_at_call 197;refine (HD.out _).mono ?_;rintro e w1 ⟨rfl,rfl⟩)
 go_ret2
 exact ⟨rfl,rfl⟩
set_option maxHeartbeats 1000000 in
theorem rdec_yes_np (S SS:ByteArray) (k m:Nat) (w:World) (hz:S.size ≤ 1000000000000000001) (hk:k = S.size) (hm0:m = 0) (hext:S.extract 0 k = SS)
  (HD:Hid (∀ W,Calls Tryz.prog 197 #[.string S,.int .i64 0] W fun e w'=>e = .returned (.int .i64 (k:Nat)) ∧ W = w'))
  (q:Nat) (L:List UInt8) (h0:0 < k) (h15:SS.size ≤ 15) (hL:SS.data.toList = L) (hall:L.all isD = true) (hm:m ≤ 15) (hq:fop .quo (fl (numL L)) (fl (10 ^ m)) = some q) :
  Calls Tryz.prog 179 #[.string S] w fun e w'=>e = .returned (.tuple #[fv q,.bool true]) ∧ w = w':=by
 subst hk hm0
 have h00:((S.size:Int) == 0) = false:=beq_eq_false_iff_ne.2 (by omega)
 have HL:=Lib.hid hL
 have HA:=Lib.hid hall
 have HQ:=Lib.hid hq
 have HLL:Hid (L.length = SS.size):=by unfold Hid;rw [← hL];simp
 clear hL hall hq
 go_enter Tryz.func179,Tryz.ntmps179
 go_wp2_with (go_at_call 197;refine (HD.out _).mono ?_;rintro e w1 ⟨rfl,rfl⟩)
 go_loop [7,9] (fun x i=>∃ j:Nat,i = .int .i64 j ∧ j ≤ SS.size ∧ x = fv (fl (numL (L.take j)))) (fun _ i=>SS.size - (intOf i).toNat)
 case atStart=>exact ⟨0,rfl,Nat.zero_le _,congrArg fv zero_fl⟩
 case round =>
  obtain ⟨j,rfl,hj,rfl⟩:=hrel
  by_cases hlt:j < SS.size
  ·have hX:=numL_bd14 L HA.out (by rw [HLL.out];exact h15) j (by rw [HLL.out];exact hlt)
   have hcd:=isD_at HA.out j (by rw [HLL.out];exact hlt)
   have HT:=Lib.hid (take_getD L j (by rw [HLL.out];exact hlt))
   have HN:=Lib.hid (numL_snoc (L.take j) (L.getD j 0))
   rw [get_list HL.out j hlt] at hcd HT HN
   generalize hX2:numL (L.take j) = X at *
   have hc1:=hcd.1
   have hc2:=hcd.2
   clear hcd
   have e1:(SS[j].toNat:Int) - 48 = ((SS[j].toNat - 48:Nat):Int):=by omega
   have hfi:floatOfInt .f64 ((SS[j].toNat:Int) - 48) = fl (SS[j].toNat - 48):=by rw [e1,floatOfInt_nat]
   have hmul:=fun W=>run_float_arith (P:=Tryz.prog) W .mul 45 .f64 (fl X) 4621819117588971520 (fl (X * 10)) (by rw [ten_fl];exact mul_int X 10 (by omega) (by omega))
   have hadd:=fun W=>run_float_arith (P:=Tryz.prog) W .add 45 .f64 (fl (X * 10)) (fl (SS[j].toNat - 48)) (fl (X * 10 + (SS[j].toNat - 48))) (add_int (X * 10) (SS[j].toNat - 48) (by omega) (by omega))
   have HX:Hid (fl (X * 10 + (SS[j].toNat - 48)) = fl (numL (L.take (j + 1)))):=by rw [Hid,HT.out,HN.out]
   clear hX HN HT hX2 e1
   generalize fl (X * 10 + (SS[j].toNat - 48)) = x2 at *
   generalize fl (SS[j].toNat - 48) = d at *
   generalize fl (X * 10) = x1 at *
   generalize fl X = x at *
   go_wp2_with fail
   go_round
   case rel=>exact ⟨j + 1,by go_num,by omega,by rw [HX.out]⟩
   case measure=>simp [intOf];omega
  ·obtain rfl:j = SS.size:=by omega
   have HTL:Hid (L.take SS.size = L):=by rw [Hid,← HLL.out,List.take_length]
   rw [HTL.out]
   generalize fl (numL L) = x at *
   go_wp2_with fail
   go_loop [8,10] (fun y i=>∃ j:Nat,i = .int .i64 j ∧ j ≤ 0 ∧ y = fv (fl (10 ^ j))) (fun _ i=>0 - (intOf i).toNat)
   case atStart=>exact ⟨0,rfl,Nat.zero_le _,congrArg fv (by rw [Nat.pow_zero];exact one_fl)⟩
   case round =>
    obtain ⟨j,rfl,hj2,rfl⟩:=hrel
    ·obtain rfl:0 = j:=by omega
     have hquo:=fun W=>run_float_arith (P:=Tryz.prog) W .quo 45 .f64 x (fl (10 ^ 0)) q HQ.out
     generalize fl (10 ^ 0) = y at *
     go_wp2_with fail
     go_ret2
     exact ⟨rfl,rfl⟩
end Go.Proofs.YtmfpmandkhiknaaGreatDoor.flt
