/-
  Proved: VmNumbers says true. Conditions: as each theorem says.
  Proved: VmNumbers says true, all scripts checked. Conditions: as each theorem says.
-/
import Derived.Test.YtmfpmandkhiknaaGreatDoorPwN
import Derived.Test.YtmfpmandkhiknaaGreatDoorPwNmA
import Derived.Test.YtmfpmandkhiknaaGreatDoorPwNmB
import Derived.Test.YtmfpmandkhiknaaGreatDoorPwNmC
import Derived.Test.YtmfpmandkhiknaaGreatDoorPwNmD
import Derived.Shelf.SlSortCmp.QuietGrown
set_option linter.unusedVariables false
set_option linter.unusedSimpArgs false
namespace Go.Proofs.YtmfpmandkhiknaaGreatDoor.mkr
open Go Go.RowKit
open heap vmm
open lex (run_store_float add0)
set_option maxRecDepth 100000
attribute [local go_sem] run_store_float
theorem modN (M:Nat) (hM:0 < M) (hM2:M ≤ 10000) (z:Int):∃ k:Nat,k < M ∧ (IntKind.u64.wrap z).tmod M = (k:Int):=by
 have h0:0 ≤ IntKind.u64.wrap z:=by
  unfold IntKind.wrap
  simp [IntKind.signed,IntKind.bits]
  omega
 generalize IntKind.u64.wrap z = u at *
 obtain ⟨n,rfl⟩:∃ n:Nat,u = n:=⟨u.toNat,by omega⟩
 refine ⟨n % M,Nat.mod_lt _ hM,?_⟩
 rw [Int.tmod_eq_emod_of_nonneg (by omega)]
 rfl
def nC:Array Value:=(nxs.map fun x=>Value.string ⟨x.toArray⟩).toArray
theorem nC_at (i:Nat) (h:i < 14):nC[i]? = some (.string ⟨(nxs.getD i []).toArray⟩):=by
 have hl:i < nxs.length:=h
 unfold nC
 rw [List.getElem?_toArray,List.getElem?_map,List.getElem?_eq_getElem hl,List.getD_eq_getElem?_getD,List.getElem?_eq_getElem hl]
 rfl
def nD:Array Value:=(nops.map fun x=>Value.string ⟨x.toArray⟩).toArray
theorem nD_at (i:Nat) (h:i < 7):nD[i]? = some (.string ⟨(nops.getD i []).toArray⟩):=by
 have hl:i < nops.length:=h
 unfold nD
 rw [List.getElem?_toArray,List.getElem?_map,List.getElem?_eq_getElem hl,List.getD_eq_getElem?_getD,List.getElem?_eq_getElem hl]
 rfl
theorem nxs_len:∀ i,i < 14 → (nxs.getD i []).length ≤ 14:=by decide
theorem nops_len:∀ i,i < 7 → (nops.getD i []).length ≤ 2:=by decide
theorem n_open {x y:List UInt8} {k:Nat} (h:nOk x y k = true):∃ c,codeS (nS x y (nops.getD k [])) = some c ∧ (nM c).state = 2 ∧ (nV (nM c) 2).num = nW k (nV (nM c) 0).num (nV (nM c) 1).num ∧ (nV (nM c) 3).isT = true ∧ (nV (nM c) 4).isT = (nV (nM c) 2).isT ∧ (nV (nM c) 4).text = (nV (nM c) 2).text ∧ (nV (nM c) 4).num = (nV (nM c) 2).num ∧ (nV (nM c) 5).num = (if flt.eqB (nV (nM c) 2).num (nV (nM c) 2).num then 4607182418800017408 else 0):=by
 unfold nOk at h
 cases hc:codeS (nS x y (nops.getD k [])) with
 | none=>rw [hc] at h;cases h
 | some c =>
  rw [hc] at h
  simp only [Bool.and_eq_true,beq_iff_eq] at h
  obtain ⟨⟨⟨⟨⟨⟨h1,h2⟩,h3⟩,h4⟩,h5⟩,h6⟩,h7⟩:=h
  exact ⟨c,rfl,h1,h2,h3,h4,h5,h6,h7⟩
theorem crow_mono {W:World} {b b':Nat} {v:Value} {c:List Ins} (h:CRow W b' v c) (hb:b ≤ b'):CRow W b v c:=by
 obtain ⟨hl,h1 | ⟨g,cp,cur,hv,h2,h3⟩⟩:=h
 ·exact ⟨hl,.inl h1⟩
 ·exact ⟨hl,.inr ⟨g,cp,cur,hv,Nat.le_trans hb h2,h3⟩⟩
theorem yes_any (b:Bool) (w:World):Calls Tryz.prog 21 #[.bool b] w fun e w'=>e = .returned (.float .f64 (if b then 4607182418800017408 else 0)) ∧ w = w':=by
 cases b
 all_goals
  go_enter Tryz.func21,Tryz.ntmps21
  go_wp2_with fail
  go_ret
  exact ⟨rfl,rfl⟩
theorem cell_bel {w w':World} {B:Nat} (h:Below B w w') {a:Addr} {v:Value} (hc:w.cell? a = some v) (ha:a.block < B):w'.cell? a = some v:=by rw [World.cell?_of_block (w:=w) (h.block a.block ha),hc]
theorem same_cf {a b:Nat} (h:cf a = cf b):flt.sameB a b = true:=by
 unfold flt.sameB
 cases ha:flt.nanB a with
 | true =>
  have:flt.nanB b = true:=by rw [← nan_cf b,← h,nan_cf,ha]
  rw [this];rfl
 | false =>
  have hb:flt.nanB b = false:=by rw [← nan_cf b,← h,nan_cf,ha]
  rw [cf_ok ha,cf_ok hb] at h
  rw [h];simp
theorem sameV_yes (b:Bool) (t:List UInt8) (r1 r2:Nat) (h:flt.sameB r1 r2 = true) (w:World):Calls Tryz.prog 22 #[.agg #[.bool b,.string ⟨t.toArray⟩,.float .f64 r1],.agg #[.bool b,.string ⟨t.toArray⟩,.float .f64 r2]] w fun e w'=>e = .returned (.bool true) ∧ w' = Sort.grow w #[vO b t r1,vO b t r2]:=by
 have HS:=Lib.hid (fun W=>flt.same_any r1 r2 W)
 rw [h] at HS
 have HW:Hid ((w.alloc (vO b t r1)).alloc (vO b t r2) = Sort.grow w #[vO b t r1,vO b t r2]):=by
  rw [Hid,Sort.alloc_eq_grow,Sort.alloc_eq_grow,Sort.grow_grow];rfl
 go_enter Tryz.func22,Tryz.ntmps22
 go_wp2_with (go_at_call 48;refine (HS.out _).mono ?_;rintro e w' ⟨rfl,rfl⟩)
 go_ret
 exact ⟨rfl,HW.out⟩
theorem grow_bel {B:Nat} {w W:World} (h:Below B w W) (hB:B ≤ W.heap.size) (n:Nat) (os:Array Obj):Below B w (Sort.grow (W.drewN n) os):=
 ⟨h.os,h.tape,h.output,Nat.le_trans h.size (by rw [Sort.size_grow];exact Nat.le_add_right _ _),fun k hk=>(by
  rw [← h.block k hk]
  show (W.heap ++ os)[k]? = W.heap[k]?
  rw [Array.getElem?_append_left (by omega)])⟩
theorem nW_op {k r0 r1 s a b:Nat} {op:BinOp} (hk:∀ p q,nW k p q = opC op p q) (h:flt.FR (flt.fop op r0 r1) s) (ha:cf r0 = a) (hb:cf r1 = b):nW k a b = cf s:=by
 rw [hk,opC_of h,ha,hb]
theorem nW_mod {r0 r1 s a b:Nat} (h:flt.md r0 r1 = s) (ha:cf r0 = a) (hb:cf r1 = b):nW 4 a b = cf s:=by
 have e:nW 4 a b = modC a b:=(if_neg (by decide)).trans ((if_neg (by decide)).trans ((if_neg (by decide)).trans ((if_neg (by decide)).trans (if_pos rfl))))
 rw [e,← h,mod_cf,ha,hb]
theorem cf_bit (b:Bool):cf (if b then 4607182418800017408 else 0) = if b then 4607182418800017408 else 0:=by cases b <;> decide +kernel
theorem nW_eq {r0 r1 u a b:Nat} {be:Bool} (h:flt.eqB r0 r1 = be) (hu:(if be then 4607182418800017408 else 0) = u) (ha:cf r0 = a) (hb:cf r1 = b):nW 5 a b = cf u:=by
 rw [← hu,cf_bit,← h,← ha,← hb]
 have e:∀ a b,nW 5 a b = if flt.eqB a b then 4607182418800017408 else 0:=fun a b=>(if_neg (by decide)).trans ((if_neg (by decide)).trans ((if_neg (by decide)).trans ((if_neg (by decide)).trans ((if_neg (by decide)).trans (if_pos rfl)))))
 rw [e]
 unfold flt.eqB
 rw [order_cf]
theorem nW_lt {r0 r1 u a b:Nat} {bl:Bool} (h:(Ieee.double.order r0 r1 == some Ordering.lt) = bl) (hu:(if bl then 4607182418800017408 else 0) = u) (ha:cf r0 = a) (hb:cf r1 = b):nW 6 a b = cf u:=by
 rw [← hu,cf_bit,← h,← ha,← hb]
 have e:∀ a b,nW 6 a b = if Ieee.double.order a b == some Ordering.lt then 4607182418800017408 else 0:=fun a b=>(if_neg (by decide)).trans ((if_neg (by decide)).trans ((if_neg (by decide)).trans ((if_neg (by decide)).trans ((if_neg (by decide)).trans (if_neg (by decide))))))
 rw [e,order_cf]
theorem nW_0 (a b:Nat):nW 0 a b = opC .add a b:=if_pos rfl
theorem nW_1 (a b:Nat):nW 1 a b = opC .sub a b:=(if_neg (by decide)).trans (if_pos rfl)
theorem nW_2 (a b:Nat):nW 2 a b = opC .mul a b:=(if_neg (by decide)).trans ((if_neg (by decide)).trans (if_pos rfl))
theorem nW_3 (a b:Nat):nW 3 a b = opC .quo a b:=(if_neg (by decide)).trans ((if_neg (by decide)).trans ((if_neg (by decide)).trans (if_pos rfl)))
set_option maxHeartbeats 4000000 in
theorem numbers_law (hall:∀ i j k,i < 14 → j < 14 → k < 7 → nOk (nxs.getD i []) (nxs.getD j []) k = true) (z1 z2 z3:Int) (w:World):Calls Tryz.prog 4 #[.int .i64 z1,.int .i64 z2,.int .i64 z3] w fun e w'=>e = .returned (.bool true) ∧ Below w.heap.size w w':=by
 obtain ⟨i,hi,hie⟩:=modN 14 (by decide) (by decide) z1
 obtain ⟨j,hj,hje⟩:=modN 14 (by decide) (by decide) z2
 obtain ⟨k,hk,hke⟩:=modN 7 (by decide) (by decide) z3
 have hi1:(IntKind.u64.wrap z1).tmod 14 = (i:Int):=hie
 have hj1:(IntKind.u64.wrap z2).tmod 14 = (j:Int):=hje
 have hk1:(IntKind.u64.wrap z3).tmod 7 = (k:Int):=hke
 clear hie hje hke
 have HAW:=Lib.hid (fun W=>awake_any W)
 go_enter Tryz.func4,Tryz.ntmps4
 go_upto_region 2 with (go_at_call 11;refine (HAW.out _).mono ?_;rintro e w2 ⟨rfl,hb⟩;have HB2:=Lib.hid hb;clear hb)
 go_wp2_with fail
 have HX:=Lib.hid (fun q hq=>(blk_cell (blk_new w2 (.cells nC 9)) q).trans (nC_at q hq))
 have HB3:=Lib.hid (HB2.out.alloc HB2.out.size (.cells nC 9))
 have hpl:w2.heap.size < (w2.alloc (.cells nC 9)).heap.size:=by simp
 change Code.wp _ _ _ _ (w2.alloc (.cells nC 9))
 generalize w2.alloc (.cells nC 9) = wx at *
 have hci:=HX.out i hi
 have hcj:=HX.out j hj
 have hXl:=nxs_len i hi
 have hYl:=nxs_len j hj
 generalize hX:nxs.getD i [] = X at *
 generalize hY:nxs.getD j [] = Y at *
 have HXY:=Lib.hid (fun _:Unit=>And.intro hX hY)
 clear hX hY HX
 have hXs:(ByteArray.mk X.toArray).size = X.length:=by simp [ByteArray.size]
 have hYs:(ByteArray.mk Y.toArray).size = Y.length:=by simp [ByteArray.size]
 have hi14:(i:Int) < 14:=by omega
 have hj14:(j:Int) < 14:=by omega
 go_wp2_with fail
 go_quiet (fail)
 go_upto_region 5 with fail
 have HB4:=Lib.hid (HB3.out.trans ((Below.drewN' wx nq).mono HB3.out.size))
 generalize wx.drewN nq = wy at *
 clear hci hcj hpl
 go_upto_region 6 with fail
 have HX:=Lib.hid (fun q hq=>(blk_cell (blk_new wy (.cells nD 9)) q).trans (nD_at q hq))
 have HB5:=Lib.hid (HB4.out.alloc HB4.out.size (.cells nD 9))
 have hpl:wy.heap.size < (wy.alloc (.cells nD 9)).heap.size:=by simp
 change Code.wp _ _ _ _ (wy.alloc (.cells nD 9))
 generalize wy.alloc (.cells nD 9) = wz at *
 have hck:=HX.out k hk
 have hOl:=nops_len k hk
 generalize hO:nops.getD k [] = O at *
 have HO:=Lib.hid (fun _:Unit=>hO)
 clear hO HX
 have hOs:(ByteArray.mk O.toArray).size = O.length:=by simp [ByteArray.size]
 have hk7:(k:Int) < 7:=by omega
 have hb:∀ u:ByteArray,u.data.toList = nS X Y O → u.size ≤ 9223372036854775807:=fun u hu=>by
  have e:u.size = u.data.toList.length:=by rw [Array.length_toList];rfl
  rw [e,hu]
  simp only [nS,List.length_append,List.length_cons,List.length_nil]
  omega
 obtain ⟨c,hc,f1,f2,f3,f4,f5,f6,f7⟩:=n_open (hall i j k hi hj hk)
 have hc':codeS (nS X Y O) = some c:=by
  obtain ⟨rfl,rfl⟩:=HXY.out ()
  rw [← HO.out ()]
  exact hc
 have HCO:Hid (∀ (u:ByteArray) (W:World),u.data.toList = nS X Y O → Calls Tryz.prog 13 #[.string u] W fun e w'=>∃ v,e = .returned v ∧ CRow w' W.heap.size v c ∧ Below W.heap.size W w'):=fun u W hu=>(Code_any u W (hb u hu)).mono fun e w' ⟨v,he,hbl,hr⟩=>by
  rw [hu,hc'] at hr
  exact ⟨v,he,hr,hbl⟩
 have HOKC:=Lib.hid (codeS_ok hc')
 clear hb hc hc'
 have HNE:=Lib.hid (fun v W h hb=>new_o w.heap.size v c 200 W h HOKC.out (by decide) hb)
 have HRU:=Lib.hid (fun p cv sv W h=>run_o w.heap.size p (newM ((machC c).map (·.1)) ((200:Nat):Int)) cv sv (machC c) 201 W h (by show (200:Int) < 201;decide))
 have eF:runM 201 (newM ((machC c).map (·.1)) ((200:Nat):Int)) = nM c:=rfl
 rw [eF,f1] at HRU
 have HVA:=Lib.hid (fun p cv sv W (h:MO w.heap.size W p (nM c) cv sv (machC c))=>Vars_at w.heap.size p (nM c) cv sv (machC c) W h)
 clear eF HOKC f1
 have HF:=Lib.hid (And.intro f2 (And.intro f3 (And.intro f4 (And.intro f5 (And.intro f6 f7)))))
 clear f2 f3 f4 f5 f6 f7
 generalize nM c = mF at *
 generalize newM ((machC c).map (·.1)) ((200:Nat):Int) = m0 at *
 generalize machC c = C at *
 go_upto_region 7 with (first | (go_at_call 13;refine (HCO.out _ _ (by simp only [ByteArray.data_append,Array.toList_append];rfl)).mono ?_;rintro e w6 ⟨v6,rfl,hr,hb⟩;have HR6:=Lib.hid (crow_mono hr HB5.out.size);have HB6:=Lib.hid (HB5.out.trans (hb.mono HB5.out.size));clear hr hb) | (go_at_call 12;refine (HNE.out _ _ HR6.out HB6.out.size).mono ?_;rintro e w7 ⟨p,cv,rfl,hmo,-,-,hb⟩;have HM7:=Lib.hid hmo;have HB7:=Lib.hid (HB6.out.trans (hb.mono HB6.out.size));clear hmo hb))
 clear hck hpl hXs hYs hOs hXl hYl hOl
 go_upto_region 8 with (go_at_call 15;refine (HRU.out _ _ _ _ HM7.out).mono ?_;rintro e w8 ⟨rfl,⟨sv8,hmo,-⟩,hb⟩;have HM9:=Lib.hid (hmo.below ((Below.refl _ _).alloc (Nat.le_refl _) (cO mF.call)));have HB9:=Lib.hid ((HB7.out.trans hb).alloc (HB7.out.trans hb).size (cO mF.call));clear hmo hb)
 change Code.wp _ _ _ _ (w8.alloc (cO mF.call))
 generalize w8.alloc (cO mF.call) = w9 at *
 go_wp2_with (first | (go_at_call 14;refine (Num_any _ _).mono ?_;rintro e w' ⟨rfl,rfl⟩) | (go_at_call 19;refine (HVA.out _ _ _ _ HM9.out).mono ?_;rintro e w10 ⟨g,cg,rfl,hcs,hb⟩;obtain ⟨r0,hr0,y0,y1,y2⟩:=hcs 0 (by decide);obtain ⟨r1,hr1,y3,y4,y5⟩:=hcs 1 (by decide);obtain ⟨r2,hr2,y6,y7,y8⟩:=hcs 2 (by decide);obtain ⟨r3,hr3,y9,y10,y11⟩:=hcs 3 (by decide);obtain ⟨r4,hr4,y12,y13,y14⟩:=hcs 4 (by decide);obtain ⟨r5,hr5,y15,y16,y17⟩:=hcs 5 (by decide);have HR:=Lib.hid (And.intro hr0 (And.intro hr1 (And.intro hr2 (And.intro hr3 (And.intro hr4 hr5)))));have HB10:=Lib.hid (HB9.out.trans (hb.mono HB9.out.size));clear hb hcs hr0 hr1 hr2 hr3 hr4 hr5))
 go_quiet (fail)
 have HB11:=Lib.hid (HB10.out.trans ((Below.drewN' w10 nq).mono HB10.out.size))
 go_upto_region 12 with fail
 have Y9:(w10.drewN nq).cell? ⟨g,9,none⟩ = some (.bool (mF.vars.getD 3 zeroV).isT):=y9
 have Y6:(w10.drewN nq).cell? ⟨g,6,none⟩ = some (.bool (mF.vars.getD 2 zeroV).isT):=y6
 have Y7:(w10.drewN nq).cell? ⟨g,7,none⟩ = some (.string ⟨(mF.vars.getD 2 zeroV).text.toArray⟩):=y7
 have Y8:(w10.drewN nq).cell? ⟨g,8,none⟩ = some (.float .f64 r2):=y8
 have Y12:(w10.drewN nq).cell? ⟨g,12,none⟩ = some (.bool (mF.vars.getD 4 zeroV).isT):=y12
 have Y13:(w10.drewN nq).cell? ⟨g,13,none⟩ = some (.string ⟨(mF.vars.getD 4 zeroV).text.toArray⟩):=y13
 have Y14:(w10.drewN nq).cell? ⟨g,14,none⟩ = some (.float .f64 r4):=y14
 have Y17:(w10.drewN nq).cell? ⟨g,17,none⟩ = some (.float .f64 r5):=y17
 obtain ⟨f2,f3,f4,f5,f6,f7⟩:=HF.out
 have f3':(mF.vars.getD 3 zeroV).isT = true:=f3
 have f4':(mF.vars.getD 4 zeroV).isT = (mF.vars.getD 2 zeroV).isT:=f4
 have f5':(mF.vars.getD 4 zeroV).text = (mF.vars.getD 2 zeroV).text:=f5
 rw [f3'] at Y9
 rw [f4'] at Y12
 rw [f5'] at Y13
 obtain ⟨hr0,hr1,hr2,hr3,hr4,hr5⟩:=HR.out
 have e42:flt.sameB r4 r2 = true:=same_cf (hr4.1.trans (f6.trans hr2.1.symm))
 obtain ⟨b5,hb5⟩:∃ b,flt.eqB r2 r2 = b:=⟨_,rfl⟩
 have o5:=flt.eqR hb5
 obtain ⟨u5,hu5⟩:∃ u:Nat,(if b5 then 4607182418800017408 else 0) = u:=⟨_,rfl⟩
 have hn5:flt.nanB u5 = false:=by rw [← hu5];cases b5 <;> decide +kernel
 have er5:r5 = u5:=by
  have h1:cf r5 = u5:=by
   rw [← hu5,← hb5,hr5.1]
   refine f7.trans ?_
   show (if flt.eqB (mF.vars.getD 2 zeroV).num (mF.vars.getD 2 zeroV).num then 4607182418800017408 else 0) = _
   rw [← hr2.1]
   unfold flt.eqB
   rw [order_cf]
  cases hb:flt.nanB r5 with
  | false=>rw [cf_ok hb] at h1;exact h1
  | true=>rw [cf_nan hb] at h1;rw [← h1,nan_NANB] at hn5;cases hn5
 have o6:(FloatKind.f64.format.order u5 u5 == some Ordering.eq) = true:=flt.eqR (by
  show (Ieee.double.order u5 u5 == some .eq) = true
  rw [flt.order_self,hn5];rfl)
 rw [er5] at Y17
 have HY5:=Lib.hid (fun W=>yes_any b5 W)
 rw [hu5] at HY5
 have HC2:=Lib.hid (fun _:Unit=>hr2.1)
 have HC2':=Lib.hid (fun _:Unit=>f2)
 have HC0:=Lib.hid (fun _:Unit=>And.intro hr0.1 hr1.1)
 have HSV4:=Lib.hid (fun W=>sameV_yes (mF.vars.getD 2 zeroV).isT (mF.vars.getD 2 zeroV).text r4 r2 e42 W)
 have hgw:g < (w10.drewN nq).heap.size:=World.block_lt_of_cell? _ _ Y8
 clear y0 y1 y2 y3 y4 y5 y6 y7 y8 y9 y10 y11 y12 y13 y14 y15 y16 y17 f2 f3 f4 f5 f6 f7 f3' f4' f5' hr0 hr1 hr2 hr3 hr4 hr5 e42 hb5 hu5 hn5 er5
 generalize w10.drewN nq = w11 at *
 obtain ⟨hr0,hr1,-⟩:=HR.out
 have HMD:=Lib.hid (fun W=>flt.rMod_any r0 r1 W hr0.2 hr1.2)
 clear hr0 hr1
 have q1:=flt.run_add (P:=Tryz.prog) 45 r0 r1 w11
 have HQ1:=Lib.hid (flt.fr_ok .add r0 r1 w11)
 have hb1:=flt.fw_below .add r0 r1 (Below.refl w11.heap.size w11)
 generalize flt.fr .add r0 r1 w11 = s0 at *
 generalize flt.fw .add r0 r1 w11 = W1 at *
 have q2:=flt.run_sub (P:=Tryz.prog) 45 r0 r1 W1
 have HQ2:=Lib.hid (flt.fr_ok .sub r0 r1 W1)
 have hb2:=flt.fw_below .sub r0 r1 hb1
 generalize flt.fr .sub r0 r1 W1 = s1 at *
 generalize flt.fw .sub r0 r1 W1 = W2 at *
 have q3:=flt.run_mul (P:=Tryz.prog) 45 r0 r1 W2
 have HQ3:=Lib.hid (flt.fr_ok .mul r0 r1 W2)
 have hb3:=flt.fw_below .mul r0 r1 hb2
 generalize flt.fr .mul r0 r1 W2 = s2 at *
 generalize flt.fw .mul r0 r1 W2 = W3 at *
 have q4:=flt.run_quo (P:=Tryz.prog) 45 r0 r1 W3
 have HQ4:=Lib.hid (flt.fr_ok .quo r0 r1 W3)
 have hb4:=flt.fw_below .quo r0 r1 hb3
 generalize flt.fr .quo r0 r1 W3 = s3 at *
 generalize flt.fw .quo r0 r1 W3 = W4 at *
 have HB12:=Lib.hid (HB11.out.trans (hb4.mono HB11.out.size))
 have Z6:=cell_bel hb4 Y6 hgw
 have Z7:=cell_bel hb4 Y7 hgw
 have Z8:=cell_bel hb4 Y8 hgw
 have Z9:=cell_bel hb4 Y9 hgw
 have Z12:=cell_bel hb4 Y12 hgw
 have Z13:=cell_bel hb4 Y13 hgw
 have Z14:=cell_bel hb4 Y14 hgw
 have Z17:=cell_bel hb4 Y17 hgw
 have hgw4:g < W4.heap.size:=Nat.lt_of_lt_of_le hgw hb4.size
 have HZ:=Lib.hid (fun _:Unit=>And.intro hgw4 (And.intro Z6 (And.intro Z7 (And.intro Z8 (And.intro Z9 (And.intro Z12 (And.intro Z13 (And.intro Z14 Z17))))))))
 clear hb1 hb2 hb3 hb4 Y6 Y7 Y8 Y9 Y12 Y13 Y14 Y17 Z6 Z7 Z8 Z9 Z12 Z13 Z14 Z17 hgw hgw4
 obtain ⟨be,hbe⟩:∃ b,flt.eqB r0 r1 = b:=⟨_,rfl⟩
 obtain ⟨bl,hbl⟩:∃ b,(Ieee.double.order r0 r1 == some Ordering.lt) = b:=⟨_,rfl⟩
 have o1:=flt.eqR hbe
 have o2:=flt.ltR hbl
 have HBE:=Lib.hid (fun _:Unit=>And.intro hbe hbl)
 clear hbe hbl
 have HY1:=Lib.hid (fun W=>yes_any be W)
 have HY2:=Lib.hid (fun W=>yes_any bl W)
 obtain ⟨u1,hu1⟩:∃ u:Nat,(if be then 4607182418800017408 else 0) = u:=⟨_,rfl⟩
 obtain ⟨u2,hu2⟩:∃ u:Nat,(if bl then 4607182418800017408 else 0) = u:=⟨_,rfl⟩
 obtain ⟨s4,hs4⟩:∃ u:Nat,flt.md r0 r1 = u:=⟨_,rfl⟩
 rw [hu1] at HY1
 rw [hu2] at HY2
 rw [hs4] at HMD
 have HUS:=Lib.hid (fun _:Unit=>And.intro hs4 (And.intro hu1 hu2))
 clear hu1 hu2 hs4
 have mixed:Tryz.prog.follows .mixedOrders = true:=by kernel_rfl
 generalize (mF.vars.getD 2 zeroV).isT = t2 at *
 generalize (mF.vars.getD 2 zeroV).text = x2 at *
 have HSK:∃ sk:Nat,(#[Value.float .f64 s0,.float .f64 s1,.float .f64 s2,.float .f64 s3,.float .f64 s4,.float .f64 u1,.float .f64 u2]:Array Value)[k]? = some (.float .f64 sk) ∧ nW k (mF.vars.getD 0 zeroV).num (mF.vars.getD 1 zeroV).num = cf sk:=by
  have hkc:k = 0 ∨ k = 1 ∨ k = 2 ∨ k = 3 ∨ k = 4 ∨ k = 5 ∨ k = 6:=by omega
  rcases hkc with rfl | rfl | rfl | rfl | rfl | rfl | rfl
  ·exact ⟨s0,rfl,nW_op nW_0 HQ1.out (HC0.out ()).1 (HC0.out ()).2⟩
  ·exact ⟨s1,rfl,nW_op nW_1 HQ2.out (HC0.out ()).1 (HC0.out ()).2⟩
  ·exact ⟨s2,rfl,nW_op nW_2 HQ3.out (HC0.out ()).1 (HC0.out ()).2⟩
  ·exact ⟨s3,rfl,nW_op nW_3 HQ4.out (HC0.out ()).1 (HC0.out ()).2⟩
  ·exact ⟨s4,rfl,nW_mod (HUS.out ()).1 (HC0.out ()).1 (HC0.out ()).2⟩
  ·exact ⟨u1,rfl,nW_eq (HBE.out ()).1 (HUS.out ()).2.1 (HC0.out ()).1 (HC0.out ()).2⟩
  ·exact ⟨u2,rfl,nW_lt (HBE.out ()).2 (HUS.out ()).2.2 (HC0.out ()).1 (HC0.out ()).2⟩
 obtain ⟨sk,hsk,hnk⟩:=HSK
 have hcell:(W4.alloc (.cells #[.float .f64 s0,.float .f64 s1,.float .f64 s2,.float .f64 s3,.float .f64 s4,.float .f64 u1,.float .f64 u2] 45)).cell? ⟨W4.heap.size,k,none⟩ = some (.float .f64 sk):=(blk_cell (blk_new W4 _) k).trans hsk
 have HNK:=Lib.hid (fun _:Unit=>hnk)
 clear hsk hnk hi14 hj14
 have HSA:Hid (∀ W,Calls Tryz.prog 22 #[.agg #[.bool false,.string ⟨#[]⟩,.float .f64 r2],.agg #[.bool false,.string ⟨#[]⟩,.float .f64 sk]] W fun e w'=>e = .returned (.bool true) ∧ ∃ q os',w' = Sort.grow (W.drewN q) os'):=fun W=>(sameV_yes false [] r2 sk (same_cf ((HC2.out ()).trans ((HC2'.out ()).trans (HNK.out ())))) W).mono fun e w' h=>⟨h.1,0,_,h.2⟩
 have HSB:Hid (∀ W,Calls Tryz.prog 22 #[.agg #[.bool t2,.string ⟨x2.toArray⟩,.float .f64 r4],.agg #[.bool t2,.string ⟨x2.toArray⟩,.float .f64 r2]] W fun e w'=>e = .returned (.bool true) ∧ ∃ q os',w' = Sort.grow (W.drewN q) os'):=fun W=>(HSV4.out W).mono fun e w' h=>⟨h.1,0,_,h.2⟩
 have HYA:Hid (∀ W,Calls Tryz.prog 21 #[.bool b5] W fun e w'=>e = .returned (.float .f64 u5) ∧ ∃ q os',w' = Sort.grow (W.drewN q) os'):=fun W=>(HY5.out W).mono fun e w' h=>⟨h.1,0,#[],by rw [Sort.grow_empty];exact h.2.symm⟩
 go_upto_region 13 with (first | (go_at_call 20;refine (HMD.out _).mono ?_;rintro e w' ⟨rfl,rfl⟩) | (go_at_call 21;first | ((with_reducible refine (HY1.out _).mono ?_);rintro e w' ⟨rfl,rfl⟩) | ((with_reducible refine (HY2.out _).mono ?_);rintro e w' ⟨rfl,rfl⟩)))
 obtain ⟨hgw,Z6,Z7,Z8,Z9,Z12,Z13,Z14,Z17⟩:=HZ.out ()
 change Code.wp _ _ _ _ (W4.alloc (.cells #[.float .f64 s0,.float .f64 s1,.float .f64 s2,.float .f64 s3,.float .f64 s4,.float .f64 u1,.float .f64 u2] 45))
 have hba:=(Below.refl W4.heap.size W4).alloc (Nat.le_refl _) (.cells #[.float .f64 s0,.float .f64 s1,.float .f64 s2,.float .f64 s3,.float .f64 s4,.float .f64 u1,.float .f64 u2] 45)
 have HB13:=Lib.hid (HB12.out.trans (hba.mono HB12.out.size))
 have hg5:g < (W4.alloc (.cells #[.float .f64 s0,.float .f64 s1,.float .f64 s2,.float .f64 s3,.float .f64 s4,.float .f64 u1,.float .f64 u2] 45)).heap.size:=Nat.lt_of_lt_of_le hgw hba.size
 have V6:=cell_grown hg5 (cell_bel hba Z6 hgw)
 have V7:=cell_grown hg5 (cell_bel hba Z7 hgw)
 have V8:=cell_grown hg5 (cell_bel hba Z8 hgw)
 have V9:=cell_grown hg5 (cell_bel hba Z9 hgw)
 have V12:=cell_grown hg5 (cell_bel hba Z12 hgw)
 have V13:=cell_grown hg5 (cell_bel hba Z13 hgw)
 have V14:=cell_grown hg5 (cell_bel hba Z14 hgw)
 have V17:=cell_grown hg5 (cell_bel hba Z17 hgw)
 clear hcell hba hgw Z6 Z7 Z8 Z9 Z12 Z13 Z14 Z17 hg5 q1 q2 q3 q4
 generalize W4.alloc (.cells #[.float .f64 s0,.float .f64 s1,.float .f64 s2,.float .f64 s3,.float .f64 s4,.float .f64 u1,.float .f64 u2] 45) = W5 at *
 go_quiet_grown (first | (with_reducible exact Calls.grown_of (HSA.out _)) | (with_reducible exact Calls.grown_of (HSB.out _)) | (with_reducible exact Calls.grown_of (HYA.out _)))
 have HE:=Lib.hid (grow_bel HB13.out (Nat.le_trans (Nat.le_refl _) HB13.out.size) nq osq)
 go_wp2_with fail
 go_ret
 exact ⟨rfl,HE.out⟩
end Go.Proofs.YtmfpmandkhiknaaGreatDoor.mkr
namespace Go.Proofs.YtmfpmandkhiknaaGreatDoor.mkr
open Go Go.RowKit
open heap vmm
theorem nm_of {x:List UInt8} (h:nAll x = true) (j k:Nat) (hj:j < 14) (hk:k < 7):nOk x (nxs.getD j []) k = true:=by
 have h1:=List.all_eq_true.1 h (nxs.getD j []) (by
  have hl:j < nxs.length:=hj
  rw [List.getD_eq_getElem?_getD,List.getElem?_eq_getElem hl]
  exact List.getElem_mem hl)
 exact List.all_eq_true.1 h1 k (by
  have:k = 0 ∨ k = 1 ∨ k = 2 ∨ k = 3 ∨ k = 4 ∨ k = 5 ∨ k = 6:=by omega
  rcases this with rfl | rfl | rfl | rfl | rfl | rfl | rfl <;> simp)
theorem nm_all (i j k:Nat) (hi:i < 14) (hj:j < 14) (hk:k < 7):nOk (nxs.getD i []) (nxs.getD j []) k = true:=by
 have:i = 0 ∨ i = 1 ∨ i = 2 ∨ i = 3 ∨ i = 4 ∨ i = 5 ∨ i = 6 ∨ i = 7 ∨ i = 8 ∨ i = 9 ∨ i = 10 ∨ i = 11 ∨ i = 12 ∨ i = 13:=by omega
 rcases this with rfl | rfl | rfl | rfl | rfl | rfl | rfl | rfl | rfl | rfl | rfl | rfl | rfl | rfl
 ·exact nm_of nq0 j k hj hk
 ·exact nm_of nq1 j k hj hk
 ·exact nm_of nq2 j k hj hk
 ·exact nm_of nq3 j k hj hk
 ·exact nm_of nq4 j k hj hk
 ·exact nm_of nq5 j k hj hk
 ·exact nm_of nq6 j k hj hk
 ·exact nm_of nq7 j k hj hk
 ·exact nm_of nq8 j k hj hk
 ·exact nm_of nq9 j k hj hk
 ·exact nm_of nq10 j k hj hk
 ·exact nm_of nq11 j k hj hk
 ·exact nm_of nq12 j k hj hk
 ·exact nm_of nq13 j k hj hk
theorem numbers_any (z1 z2 z3:Int) (w:World):Calls Tryz.prog 4 #[.int .i64 z1,.int .i64 z2,.int .i64 z3] w fun e w'=>e = .returned (.bool true) ∧ Below w.heap.size w w':=numbers_law nm_all z1 z2 z3 w
end Go.Proofs.YtmfpmandkhiknaaGreatDoor.mkr
