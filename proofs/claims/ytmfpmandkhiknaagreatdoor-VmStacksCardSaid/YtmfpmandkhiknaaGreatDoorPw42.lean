/-
  Proved: VmStacks says true. Conditions: as each theorem says.
-/
import Derived.Test.YtmfpmandkhiknaaGreatDoorPw41
set_option linter.unusedVariables false
set_option linter.unusedSimpArgs false
namespace Go.Proofs.YtmfpmandkhiknaaGreatDoor.mkr
open Go Go.RowKit
open heap vmm
open lex (run_store_float add0)
set_option maxRecDepth 100000
attribute [local go_sem] run_store_float
theorem andN (m:Nat) (hm:m < 64) (c:Int):∃ q:Nat,q ≤ m ∧ bits .and .i64 c (m:Int) = (q:Int):=by
 have h:(BitVec.ofInt 64 c &&& BitVec.ofInt 64 (m:Int)).toNat ≤ (BitVec.ofInt 64 (m:Int)).toNat:=by
  rw [BitVec.toNat_and];exact Nat.and_le_right
 have h2:(BitVec.ofInt 64 (m:Int)).toNat = m:=by
  rw [BitVec.toNat_ofInt];omega
 rw [h2] at h
 refine ⟨(BitVec.ofInt 64 c &&& BitVec.ofInt 64 (m:Int)).toNat,h,?_⟩
 show IntKind.i64.wrap ((BitVec.ofInt 64 c &&& BitVec.ofInt 64 (m:Int)).toNat:Int) = _
 generalize (BitVec.ofInt 64 c &&& BitVec.ofInt 64 (m:Int)).toNat = q at *
 exact IntWalk.i64_in _ (by omega)
def numI:Ins:=⟨1,0,4607182418800017408,[]⟩
def stkC (k:Nat):List Ins:=List.replicate k numI
def stkF (k:Nat):Mac:=runM 201 (newM ((machC (stkC k)).map (·.1)) 200)
def stkOk (k:Nat):Bool:=if 64 < k then (stkF k).state == 3 && (stkF k).errno == 2202 && (stkF k).ran == 65 else (stkF k).state == 2 && (stkF k).errno == 0 && (stkF k).ran == k
theorem stk_all:∀ j,j < 64 → stkOk (40 + j) = true:=by decide +kernel
theorem stk_code (k:Nat) (h:1 ≤ k) (h2:k ≤ 200):CodeOk (stkC k):=by
 refine ⟨fun x hx => ?_,fun i hi => ?_,by simp [stkC];omega,fun e=>by have:=congrArg List.length e;simp [stkC] at this;omega⟩
 ·obtain ⟨i,hi,rfl⟩:=List.mem_map.1 hx
  rw [List.eq_of_mem_replicate hi]
  rfl
 ·rw [List.eq_of_mem_replicate hi]
  decide
set_option maxHeartbeats 2000000 in
theorem stacks_any (z:Int) (w:World):Calls Tryz.prog 5 #[.int .i64 z] w fun e w'=>e = .returned (.bool true) ∧ Below w.heap.size w w':=by
 obtain ⟨j,hj,hje⟩:=andN 63 (by omega) z
 have e1:wrap64 (40 + bits .and .i64 z 63) = ((40 + j:Nat):Int):=by
  rw [show bits .and .i64 z 63 = (j:Int) from hje];rw [IntWalk.wrap64_in _ (by omega)];omega
 have HOK:=Lib.hid (stk_all j (by omega))
 obtain ⟨k,hk⟩:∃ k:Nat,k = 40 + j:=⟨_,rfl⟩
 rw [← hk] at e1 HOK
 have hk1:40 ≤ k:=by omega
 have hk2:k ≤ 103:=by omega
 clear hje hj hk
 have HAW:=Lib.hid (fun W=>awake_any W)
 go_enter Tryz.func5,Tryz.ntmps5
 go_upto_region 3 with (go_at_call 11;refine (HAW.out _).mono ?_;rintro e w2 ⟨rfl,hb⟩;have HB2:=Lib.hid hb;clear hb)
 go_upto_region 4 with fail
 rw [e1]
 go_wp2_with fail
 go_loopg [4,5] k (fun kk v4 v5 wr=>∃ (i:Nat) (u4:Value),u4 = v4 ∧ v5 = .int .i64 i ∧ i + kk = k ∧ Hid (CRow wr w.heap.size u4 (stkC i) ∧ Below w.heap.size w wr))
 case atStart=>exact ⟨0,_,rfl,rfl,by omega,World.ownsRow_nil _ _ _ _,HB2.out⟩
 case round =>
  obtain ⟨i,v4,rfl,rfl,hik,HR⟩:=hrel
  by_cases hlt:i < k
  ·cases gk with
   | zero=>omega
   | succ gk =>
   have hI:(i:Int) < (k:Int):=by omega
   obtain ⟨a4,c4,rfl⟩:=HR.out.1.slice
   have hrow2:CRow (wr.alloc (iO ⟨numI,4607182418800017408⟩)) w.heap.size (.slice a4 (stkC i).length c4) (stkC i):=HR.out.1.kept (fun g o hg ho=>blk_old ho _)
   obtain ⟨v5',W5,hrun,hr5,ht5⟩:=app_ins w.heap.size (.slice a4 (stkC i).length c4) (rC (stkC i)) [(numI,4607182418800017408)] ⟨wr.heap.size,0,none⟩ 1 (wr.alloc (iO ⟨numI,4607182418800017408⟩)) hrow2 (fun j u hu=>by
    rw [add0,blk_cell (blk_new wr (iO ⟨numI,4607182418800017408⟩)),List.getElem?_toArray]
    exact hu) (by have:=HR.out.2.size;simp;omega) (by rw [rC_len];simp [stkC];omega) (by simp)
   have hr6:CRow W5 w.heap.size v5' (stkC (i + 1)):=by
    have e:stkC (i + 1) = stkC i ++ [numI]:=by unfold stkC;rw [List.replicate_succ']
    unfold CRow
    rw [e,rC_app]
    exact hr5
   have hb6:Below w.heap.size w W5:=by
    have h1:Below w.heap.size w (wr.alloc (iO ⟨numI,4607182418800017408⟩)):=HR.out.2.alloc HR.out.2.size _
    refine h1.trans (ht5.below h1.size (fun g hg => ?_))
    exact (HR.out.1.lt g hg).1
   have HR6:Hid (CRow W5 w.heap.size v5' (stkC (i + 1)) ∧ Below w.heap.size w W5):=⟨hr6,hb6⟩
   have hrun':(Builtin.append_ #[28,28] 28 #[.slice a4 (stkC i).length c4,.slice (some ⟨wr.heap.size,0,none⟩) 1 1]).run Tryz.prog (wr.alloc (.cells #[.int .i64 1,.int .i64 0,.float .f64 4607182418800017408,.string ⟨#[]⟩] 54 (0,0))) = .ok v5' W5:=hrun
   have HRUN:=Lib.hid hrun'
   clear hrun hrun' hr5 ht5 hr6 hb6 hrow2
   go_wp2_with (at_builtin;refine reg.wpList_append rfl rfl rfl rfl rfl HRUN.out ?_)
   go_roundg gk
   case rel=>exact ⟨i + 1,_,rfl,by go_num,by omega,HR6.out⟩
   case measure=>omega
  ·have hik2:i = k:=by omega
   subst hik2
   have hco:=stk_code i (by omega) (by omega)
   have HNE:=Lib.hid (fun W h hb=>new_o w.heap.size v4 (stkC i) 200 W h hco (by decide) hb)
   have HNW:=Lib.hid (HNE.out wr HR.out.1 HR.out.2.size)
   have HRU:=Lib.hid (fun p cv sv W h=>run_o w.heap.size p (newM ((machC (stkC i)).map (·.1)) ((200:Nat):Int)) cv sv (machC (stkC i)) 201 W h (by show (200:Int) < 201;decide))
   have eF:runM 201 (newM ((machC (stkC i)).map (·.1)) ((200:Nat):Int)) = stkF i:=rfl
   rw [eF] at HRU
   have HER:=Lib.hid (fun p cv sv W (h:MO w.heap.size W p (stkF i) cv sv (machC (stkC i)))=>Error_any p (stkF i) cv sv (machC (stkC i)) W h.at')
   have HRN:=Lib.hid (fun p cv sv W (h:MO w.heap.size W p (stkF i) cv sv (machC (stkC i)))=>Ran_any p (stkF i) cv sv (machC (stkC i)) W h.at')
   have hokk:=HOK.out
   unfold stkOk at hokk
   clear eF HNE hco HOK
   generalize stkF i = mF at *
   generalize newM ((machC (stkC i)).map (·.1)) ((200:Nat):Int) = m0 at *
   generalize machC (stkC i) = C at *
   by_cases h64:64 < i
   ·rw [if_pos h64] at hokk
    simp only [Bool.and_eq_true,beq_iff_eq] at hokk
    obtain ⟨⟨h1,h2⟩,h3⟩:=hokk
    have hd:decide ((i:Int) > 64) = true:=decide_eq_true (by omega)
    rw [h1] at HRU
    rw [h2] at HER
    rw [h3] at HRN
    clear h1 h2 h3
    go_upto_region 10 with (go_at_call 12;refine (HNW.out).mono ?_;rintro e w3 ⟨p,cv,rfl,hmo,-,-,hb⟩;have HM3:=Lib.hid hmo;have HB3:=Lib.hid (HR.out.2.trans (hb.mono HR.out.2.size));clear hmo hb)
    go_upto_region 11 with (go_at_call 15;refine (HRU.out _ _ _ _ HM3.out).mono ?_;rintro e w4 ⟨rfl,⟨sv4,hmo,-⟩,hb⟩;have HM4:=Lib.hid hmo;have HB4:=Lib.hid (HB3.out.trans hb);clear hmo hb)
    have HM5:=Lib.hid (HM4.out.below ((Below.refl _ _).alloc (Nat.le_refl _) (cO mF.call)))
    have HB5:Hid (Below w.heap.size w (w4.alloc (cO mF.call))):=HB4.out.alloc HB4.out.size _
    change Code.wp _ _ _ _ (w4.alloc (cO mF.call))
    generalize w4.alloc (cO mF.call) = w5 at *
    go_wp2_with (first | (go_at_call 14;refine (Num_any _ _).mono ?_;rintro e w' ⟨rfl,rfl⟩) | (go_at_call 16;refine (HER.out _ _ _ _ HM5.out).mono ?_;rintro e w6 ⟨rfl,hb⟩;have HB6:=Lib.hid (HB5.out.trans (hb.mono HB5.out.size));have HM6:=Lib.hid (HM5.out.below hb);clear hb) | (go_at_call 17;refine (HRN.out _ _ _ _ HM6.out).mono ?_;rintro e w7 ⟨rfl,rfl⟩))
    go_ret
    exact ⟨rfl,HB6.out⟩
   ·rw [if_neg h64] at hokk
    simp only [Bool.and_eq_true,beq_iff_eq] at hokk
    obtain ⟨⟨h1,h2⟩,h3⟩:=hokk
    have hd:decide ((i:Int) > 64) = false:=decide_eq_false (by omega)
    rw [h1] at HRU
    rw [h2] at HER
    rw [h3] at HRN
    clear h1 h2 h3
    go_upto_region 10 with (go_at_call 12;refine (HNW.out).mono ?_;rintro e w3 ⟨p,cv,rfl,hmo,-,-,hb⟩;have HM3:=Lib.hid hmo;have HB3:=Lib.hid (HR.out.2.trans (hb.mono HR.out.2.size));clear hmo hb)
    go_upto_region 11 with (go_at_call 15;refine (HRU.out _ _ _ _ HM3.out).mono ?_;rintro e w4 ⟨rfl,⟨sv4,hmo,-⟩,hb⟩;have HM4:=Lib.hid hmo;have HB4:=Lib.hid (HB3.out.trans hb);clear hmo hb)
    have HM5:=Lib.hid (HM4.out.below ((Below.refl _ _).alloc (Nat.le_refl _) (cO mF.call)))
    have HB5:Hid (Below w.heap.size w (w4.alloc (cO mF.call))):=HB4.out.alloc HB4.out.size _
    change Code.wp _ _ _ _ (w4.alloc (cO mF.call))
    generalize w4.alloc (cO mF.call) = w5 at *
    go_wp2_with (first | (go_at_call 14;refine (Num_any _ _).mono ?_;rintro e w' ⟨rfl,rfl⟩) | (go_at_call 16;refine (HER.out _ _ _ _ HM5.out).mono ?_;rintro e w6 ⟨rfl,hb⟩;have HB6:=Lib.hid (HB5.out.trans (hb.mono HB5.out.size));have HM6:=Lib.hid (HM5.out.below hb);clear hb) | (go_at_call 17;refine (HRN.out _ _ _ _ HM6.out).mono ?_;rintro e w7 ⟨rfl,rfl⟩))
    go_ret
    exact ⟨rfl,HB6.out⟩
end Go.Proofs.YtmfpmandkhiknaaGreatDoor.mkr
