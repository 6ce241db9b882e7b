/-
  Proved: what Compile and Code return. Conditions: as each theorem says.
  Proved: what the awake script comes to (plain). Conditions: as each theorem says.
  Proved: that awake of the machine's laws says true. Conditions: as each theorem says.
-/
import Derived.Test.YtmfpmandkhiknaaGreatDoorPw40
import Derived.Test.YtmfpmandkhiknaaGreatDoorPw32
set_option linter.unusedVariables false
set_option linter.unusedSimpArgs false
namespace Go.Proofs.YtmfpmandkhiknaaGreatDoor.mkr
open Go Go.RowKit
open heap vmm mapi
open par (Nd KV ndV ndO wt wtL PE PS ms stmtsR TreeR zero)
open chk (Nm)
open many (envOf st0 fnT)
open lex (run_store_float add0 Tk scanF scanL)
set_option maxRecDepth 100000
attribute [local go_sem] run_store_float
/-! the numbers of a code have 64 bits -/
def Nums (l:List Ins):Prop:=∀ i ∈ l,i.num < 18446744073709551616
theorem nums_put {m:MS} {i:Ins} (h:Nums m.code) (hi:i.num < 18446744073709551616):Nums (m.put i).code:=fun x hx=>by
 rcases List.mem_append.1 (show x ∈ m.code ++ [i] from hx) with e | e
 ·exact h x e
 ·rw [List.mem_singleton.1 e];exact hi
theorem nums_land {m:MS} {k:Nat} (h:Nums m.code):Nums (m.land k).code:=fun x hx=>by
 obtain ⟨j,hj,rfl⟩:=List.getElem_of_mem hx
 have hl:(m.land k).code.length = m.code.length:=by simp [MS.land,setArg]
 have e:(m.land k).code[j] = if k = j then { m.code[j]'(by rw [← hl];exact hj) with arg:=m.code.length } else m.code[j]'(by rw [← hl];exact hj):=by
  simp only [MS.land,setArg]
  rw [List.getElem_modify]
 rw [e]
 have:=h _ (List.getElem_mem (by rw [← hl];exact hj:j < m.code.length))
 split <;> exact this
theorem nums_setS {m:MS} (t:Nm) (h:Nums m.code):Nums (setS t m).code:=by
 unfold setS
 split <;> exact h
theorem nums_fin (k:Int) (t:Nm) (n many:Nat) {m:MS} (h:Nums m.code) (hn:n < 18446744073709551616):Nums (finE k t n many m).code:=by
 unfold finE
 split
 ·exact nums_put h hn
 split
 ·exact nums_put h (by simp)
 split
 ·exact nums_put (m:=m.flaw _) h (by simp)
 split
 ·exact nums_put (m:=m.flaw _) h (by simp)
 split
 ·exact nums_put (m:=m.flaw _) h (by simp)
 ·exact nums_put (m:=m.flaw _) h (by simp)
mutual
theorem nums_expr:∀ (x:Nd) (m:MS),Nums m.code → wt x < 1000000000 → Nums (exprC x m).code
 | .mk k t n ks a,m,h,hw=>by
  have h1:=wt_kids (.mk k t n ks a)
  have h2:(Nd.mk k t n ks a).kids = ks:=rfl
  rw [h2] at h1
  rw [exprC]
  split
  ·exact nums_fin k t n ks.length (nums_exprs ks m h (by omega)) (par.wt_num hw)
  ·exact h
theorem nums_exprs:∀ (l:List Nd) (m:MS),Nums m.code → wtL l < 1000000000 → Nums (exprsC l m).code
 | [],m,h,hw=>by rw [exprsC];exact h
 | x :: r,m,h,hw=>by
  rw [wtL] at hw
  rw [exprsC]
  exact nums_exprs r _ (nums_expr x m h (by omega)) (by omega)
end
mutual
theorem nums_block:∀ (x:Nd) (m:MS),Nums m.code → wt x < 1000000000 → Nums (blockC x m).code
 | .mk k t n ks a,m,h,hw=>by
  have h1:=wt_kids (.mk k t n ks a)
  have h2:(Nd.mk k t n ks a).kids = ks:=rfl
  rw [h2] at h1
  rw [blockC]
  split
  ·exact nums_stmts ks m h (by omega)
  ·exact h
theorem nums_stmts:∀ (l:List Nd) (m:MS),Nums m.code → wtL l < 1000000000 → Nums (stmtsC l m).code
 | [],m,h,hw=>by rw [stmtsC];exact h
 | x :: r,m,h,hw=>by
  rw [wtL] at hw
  rw [stmtsC]
  exact nums_stmts r _ (nums_stmt x m h (by omega)) (by omega)
theorem nums_stmt:∀ (x:Nd) (m:MS),Nums m.code → wt x < 1000000000 → Nums (stmtC x m).code
 | .mk k t n [x] a,m,h,hw=>by
  have h1:=wt_kids (.mk k t n [x] a)
  have h2:wtL (Nd.mk k t n [x] a).kids = wt x:=by show wtL [x] = _;simp [wtL]
  have h3:=nums_expr x m h (by omega)
  rw [stmtC]
  split
  ·exact nums_put (nums_setS _ h3) (by simp)
  split
  ·exact nums_put h3 (by simp)
  split
  ·exact nums_put h3 (by simp)
  ·exact h
 | .mk k t n [x,y] a,m,h,hw=>by
  have h1:=wt_kids (.mk k t n [x,y] a)
  have h2:wtL (Nd.mk k t n [x,y] a).kids = wt x + wt y:=by show wtL [x,y] = _;simp [wtL]
  have h3:=nums_expr x m h (by omega)
  rw [stmtC]
  split
  ·exact nums_land (nums_put (nums_block y _ (nums_put h3 (by simp)) (by omega)) (by simp))
  ·exact h
 | .mk k t n [x,y,z] a,m,h,hw=>by
  have h1:=wt_kids (.mk k t n [x,y,z] a)
  have h2:wtL (Nd.mk k t n [x,y,z] a).kids = wt x + wt y + wt z:=by show wtL [x,y,z] = _;simp [wtL];omega
  have h3:=nums_expr x m h (by omega)
  rw [stmtC]
  split
  ·split
   ·exact nums_land (nums_block y _ (nums_put h3 (by simp)) (by omega))
   ·exact nums_land (nums_block z _ (nums_land (nums_put (nums_block y _ (nums_put h3 (by simp)) (by omega)) (by simp))) (by omega))
  ·exact h
 | .mk k t n [] a,m,h,hw=>by rw [stmtC] <;> first | exact h | simp
 | .mk k t n (_ :: _ :: _ :: _ :: _) a,m,h,hw=>by rw [stmtC] <;> first | exact h | simp
end
theorem nums_code {x:Nd} {c:List Ins} (h:codeC x = some c) (hw:wt x < 1000000000):Nums c ∧ c.length ≤ 2 * wt x + 1 ∧ c ≠ []:=by
 unfold codeC at h
 split at h
 ·cases h
 ·cases h
  refine ⟨nums_put (nums_block x startC (fun i hi=>by cases hi) hw) (by simp),?_,by simp [codeM,MS.put]⟩
  have:=(few_block x startC).code
  have e:(codeM x).code.length = (blockC x startC).code.length + 1:=by simp [codeM,MS.put]
  have e0:startC.code.length = 0:=rfl
  omega
/-! tokens' numbers -/
theorem tok_num {t:List UInt8} {x:Int × List UInt8 × Nat × Nat} (h:lex.tok t = .ok x):x.2.2.1 < 18446744073709551616:=by
 unfold lex.tok at h
 split at h
 ·split at h
  ·cases h
  ·cases h;simp
 split at h
 ·split at h
  ·cases h
  ·rename_i y hy
   split at h
   ·cases h
   ·cases h;exact ofT_lt hy
 split at h
 ·split at h
  ·cases h
  ·split at h
   ·cases h
   ·cases h;simp
 split at h
 ·cases h;simp
 split at h
 ·cases h;simp
 ·cases h
theorem scanF_num:∀ (f:Nat) (t:List UInt8) (a:Nat),∀ k ∈ (scanF f t a).1,k.num < 18446744073709551616
 | 0,t,a,k,h=>by simp [scanF] at h
 | f + 1,t,a,k,h=>by
  rw [scanF] at h
  split at h
  ·simp at h;rw [h];simp
  ·split at h
   ·simp at h
   ·rename_i x hx
    rcases List.mem_cons.1 h with e | e
    ·rw [e];exact tok_num hx
    ·exact scanF_num f _ _ k e
theorem env_num (l:List UInt8):∀ k ∈ (envOf l).ts,k.num < 18446744073709551616:=by
 intro k hk
 have hk:k ∈ (scanL l).1:=hk
 unfold scanL at hk
 split at hk
 ·simp at hk
 ·exact scanF_num _ _ _ k hk
theorem script_read (l:List UInt8):∃ ks s2,stmtsR (envOf l) 1600024 100002 [] st0 = some (ks,s2) ∧ wt (.mk 8 [] 0 ks 0) ≤ 400000:=by
 have hm:ms (envOf l) st0 ≤ 16388:=by
  rw [par.ms_ok rfl]
  have:=par.scanL_len l
  show (scanL l).1.length - 0 + 1 ≤ _
  omega
 obtain ⟨ks,s2,hr,_⟩:=par.stmts_ends (envOf l) 1600024 100002 [] st0 (by omega) (by omega)
 have hr:stmtsR (envOf l) 1600024 100002 [] st0 = some (ks,s2):=hr
 refine ⟨ks,s2,hr,?_⟩
 have:=par.stmts_wt _ (env_num l) 1600024 100002 [] ks st0 s2 hr
 rw [wt]
 have e:par.numW 0 = 1:=by decide
 have e0:wtL [] = 0:=by rw [wtL]
 omega
def codeS (l:List UInt8):Option (List Ins):=match stmtsR (envOf l) 1600024 100002 [] st0 with
 | some (ks,s2)=>if s2.code = 0 then codeC (.mk 8 [] 0 ks 0) else none
 | none=>none
def CodP (o:Option (List Ins)) (w:World) (v:Value) (w':World):Prop:=Below w.heap.size w w' ∧ match o with
 | none=>v = .slice none 0 0
 | some c=>CRow w' w.heap.size v c
set_option maxHeartbeats 2000000 in
theorem Compile_any (x:Nd) (d:Nat) (a:Option Addr) (n:Nat) (S:List Nat) (w:World) (hk:KV 61 w d x.kids (.slice a x.kids.length n) S) (hw:wt x ≤ 1000000) :
  Calls Tryz.prog 36 #[ndV x (.slice a x.kids.length n)] w fun e w'=>∃ v,e = .returned (.tuple #[v,.int .i64 (match codeC x with | none=>2100 | some _=>0)]) ∧ CodP (codeC x) w v w':=by
 have HS:Hid (∀ b ∈ S,b < w.heap.size):=hk.lt
 have HCC:Hid (codeC x = if (codeM x).bad = true ∨ 64 < (codeM x).slots.length then none else some (codeM x).code):=rfl
 generalize codeC x = R at *
 have HB1:Hid (Below w.heap.size w (w.alloc (ndO x (.slice a x.kids.length n)))):=(Below.refl _ _).alloc (Nat.le_refl _) _
 have HX:=Lib.hid (blk_new w (ndO x (.slice a x.kids.length n)))
 have HK:=Lib.hid (hk.below HB1.out)
 clear hk
 go_enter Tryz.func36,Tryz.ntmps36
 go_upto_region 1 with fail
 change Code.wp _ _ _ _ (w.alloc (ndO x (.slice a x.kids.length n)))
 generalize w.alloc (ndO x (.slice a x.kids.length n)) = w1 at *
 have hkm:=blk_new w1 (.cells #[.slice none 0 0,.slice none 0 0,.bool false] 108 (0,0))
 have HB2:Hid (Below w1.heap.size w1 (w1.alloc (.cells #[.slice none 0 0,.slice none 0 0,.bool false] 108 (0,0)))):=(Below.refl _ _).alloc (Nat.le_refl _) _
 have HKA:Hid (KA (w1.alloc (.cells #[.slice none 0 0,.slice none 0 0,.bool false] 108 (0,0))) w.heap.size w1.heap.size startC (.slice none 0 0) (.slice none 0 0)):=⟨hkm,World.ownsRow_nil _ _ _ _,World.ownsRow_nil _ _ _ _,HB1.out.size⟩
 have HX2:=Lib.hid (blk_below HX.out HB2.out)
 have HK2:=Lib.hid (HK.out.below HB2.out)
 have hql:=blk_lt HX.out
 go_upto_region 2 with fail
 change Code.wp _ _ _ _ (w1.alloc (.cells #[.slice none 0 0,.slice none 0 0,.bool false] 108 (0,0)))
 generalize w1.alloc (.cells #[.slice none 0 0,.slice none 0 0,.bool false] 108 (0,0)) = w2 at *
 have p0:=blk_cell (HX2.out) 0
 have p1:=blk_cell (HX2.out) 1
 have p2:=blk_cell (HX2.out) 2
 have p3:=blk_cell (HX2.out) 3
 have p4:=blk_cell (HX2.out) 4
 have pf0:=blk_free (HX2.out) 0
 have pf1:=blk_free (HX2.out) 1
 have pf2:=blk_free (HX2.out) 2
 have pf3:=blk_free (HX2.out) 3
 have pf4:=blk_free (HX2.out) 4
 have pl:=blk_lt (HX2.out)
 simp only [List.getElem?_toArray,List.getElem?_cons_zero,List.getElem?_cons_succ] at p0 p1 p2 p3 p4
 have HBL:=Lib.hid ((maker_all d).2 x a n S w.heap.size w1.heap.size _ _ startC w2 HK2.out HS.out HKA.out (by show 0 + _ ≤ _;omega) (by show 0 + _ ≤ _;omega))
 have HFB:=Lib.hid (few_block x startC)
 go_upto_region 3 with (go_at_call 58;refine HBL.out.mono ?_;rintro e w3 ⟨rfl,cv3,sv3,hka,hst⟩;have HKA3:=Lib.hid hka;have HST3:=Lib.hid hst;clear hka hst)
 have hf1:=HFB.out.code
 have hc0:startC.code.length = 0:=rfl
 have hHB:w.heap.size ≤ w3.heap.size:=Nat.le_trans HB1.out.size (Nat.le_trans HB2.out.size HST3.out.t.size)
 go_upto_region 4 with (go_at_call 59;refine (put_any w.heap.size w1.heap.size _ _ _ ⟨0,0,0,[]⟩ _ HKA3.out hHB (by omega)).mono ?_;rintro e w4 ⟨rfl,cv4,sv4,hka,hst⟩;have HKA4:=Lib.hid hka;have HST4:=Lib.hid (HST3.out.trans hst);clear hka hst)
 have HT:Hid (Below w.heap.size w w4):=by
  have h12:Below w.heap.size w w2:=HB1.out.trans (HB2.out.mono HB1.out.size)
  refine h12.trans (HST4.out.t.below h12.size (fun k hk => ?_))
  have h0:=HKA.out.own k hk
  exact h0.1
 have HCE:Hid (codeM x = (blockC x startC).put ⟨0,0,0,[]⟩):=rfl
 rw [← HCE.out] at HKA4
 clear HCE HBL HFB hf1 hc0 HKA3 HST3 HST4
 generalize codeM x = mk at *
 obtain ⟨ca,cc,rfl⟩:=HKA4.out.code.slice
 obtain ⟨sa,sc,rfl⟩:=HKA4.out.slots.slice
 have k0:=blk_cell HKA4.out.obj 0
 have k1:=blk_cell HKA4.out.obj 1
 have k2:=blk_cell HKA4.out.obj 2
 have kl:=blk_lt HKA4.out.obj
 simp only [List.getElem?_toArray,List.getElem?_cons_zero,List.getElem?_cons_succ] at k0 k1 k2
 obtain ⟨mc,ms,mb⟩:=mk
 simp only at k0 k1 k2 HCC
 cases mb with
 | true =>
  have HRC:Hid (R = none):=by unfold Hid;rw [HCC.out,if_pos (.inl rfl)]
  go_wp2_with fail
  go_ret2
  try rw [HRC.out]
  exact ⟨_,rfl,HT.out,rfl⟩
 | false =>
  by_cases h64:64 < ms.length
  ·have hc:R = none:=by rw [HCC.out,if_pos (.inr h64)]
   have HRC:=Lib.hid hc
   clear hc
   have hd:decide ((ms.length:Int) > 64) = true:=decide_eq_true (by omega)
   go_wp2_with fail
   go_ret2
   try rw [HRC.out]
   exact ⟨_,rfl,HT.out,rfl⟩
  ·have hc:R = some mc:=by rw [HCC.out,if_neg (by simp;omega)]
   have HRC:=Lib.hid hc
   clear hc
   have hd:decide ((ms.length:Int) > 64) = false:=decide_eq_false (by omega)
   go_wp2_with fail
   go_ret2
   try rw [HRC.out]
   exact ⟨_,rfl,HT.out,HKA4.out.code⟩
def machC (c:List Ins):Is:=c.map fun i=>({ i with num:=cf i.num },i.num)
theorem machC_cs (c:List Ins):iCs (machC c) = iCs (rC c):=by
 induction c with
 | nil=>rfl
 | cons x c ih =>
  have e1:iCs (machC (x :: c)) = .int .i64 x.op :: .int .i64 x.arg :: .float .f64 x.num :: .string ⟨x.text.toArray⟩ :: iCs (machC c):=rfl
  have e2:iCs (rC (x :: c)) = .int .i64 x.op :: .int .i64 x.arg :: .float .f64 x.num :: .string ⟨x.text.toArray⟩ :: iCs (rC c):=rfl
  rw [e1,e2,ih]
theorem machC_len (c:List Ins):(machC c).length = c.length:=by simp [machC]
theorem machC_row {w:World} {B:Nat} {v:Value} {c:List Ins} (h:CRow w B v c):IRow w v (machC c):=by
 have:=own_zero h
 unfold IRow at this ⊢
 rw [machC_cs,machC_len]
 rw [rC_len] at this
 exact this
theorem machC_ok {c:List Ins} (h:Nums c):IsOk (machC c):=by
 intro y hy
 obtain ⟨i,hi,rfl⟩:=List.mem_map.1 hy
 exact ⟨rfl,h i hi⟩
theorem fair_of {i:Ins} {many:Nat} (h:mayI i 64 many):fairM i many = true:=by
 obtain ⟨h1,h2,h3,h4,h5⟩:=h
 unfold fairM
 by_cases e1:i.op = 3 ∨ i.op = 4
 ·rw [if_pos e1]
  have:=h1 e1
  simp;omega
 rw [if_neg e1]
 by_cases e2:i.op = 15 ∨ i.op = 16
 ·rw [if_pos e2]
  have:=h2 e2
  simp;omega
 rw [if_neg e2]
 by_cases e3:i.op = 17
 ·rw [if_pos e3]
  have:=h3 e3
  rw [fnT_arg] at this
  rw [this]
  simp
 rw [if_neg e3]
 simp;omega
theorem crow_base {w:World} {b b2:Nat} {v:Value} {l:List Ins} (h:CRow w b v l) (hb:b2 ≤ b):CRow w b2 v l:=by
 obtain ⟨hl,h1 | ⟨g,c,cur,hv,h2,h3⟩⟩:=h
 ·exact ⟨hl,.inl h1⟩
 ·exact ⟨hl,.inr ⟨g,c,cur,hv,Nat.le_trans hb h2,h3⟩⟩
theorem KV.nilv (T:TypeId) (w:World):KV T w 1 [] (.slice none 0 0) []:=⟨[],[],rfl,rfl,World.ownsRow_nil _ _ _ _,by simp [Value.ownBlock],by simp [Value.ownBlock],fun i x c s h=>by simp at h⟩
structure CodeOk (c:List Ins):Prop where
 fair:∀ x ∈ machC c,fairM x.1 (machC c).length = true
 nums:Nums c
 few:c.length ≤ 900000
 ne:c ≠ []
theorem codeS_ok {l:List UInt8} {c:List Ins} (h:codeS l = some c):CodeOk c:=by
 obtain ⟨ks,s2,hr,hw⟩:=script_read l
 unfold codeS at h
 rw [hr] at h
 simp only at h
 split at h
 ·obtain ⟨h1,h2,h3⟩:=nums_code h (by omega)
  refine ⟨fun x hx => ?_,h1,by omega,h3⟩
  obtain ⟨i,hi,rfl⟩:=List.mem_map.1 hx
  rw [machC_len]
  exact fair_of (i:={ i with num:=cf i.num }) (code_ok _ h i hi)
 ·cases h
set_option maxHeartbeats 2000000 in
theorem Code_any (s:ByteArray) (w:World) (hs:s.size ≤ 9223372036854775807) :
  Calls Tryz.prog 13 #[.string s] w fun e w'=>∃ v,e = .returned v ∧ CodP (codeS s.data.toList) w v w':=by
 obtain ⟨ks,s2,hr,hw⟩:=script_read s.data.toList
 have HSC:=Lib.hid (fun W=>par.Script_any s W hs 1600024 100002 ks s2 (by omega) hr)
 have HR:Hid (codeS s.data.toList = if s2.code = 0 then codeC (.mk 8 [] 0 ks 0) else none):=by
  unfold Hid codeS
  rw [hr]
 generalize codeS s.data.toList = R at *
 clear hr
 have HW:=Lib.hid hw
 clear hw
 by_cases hc:s2.code = 0
 ·have HRC:=HR.out
  rw [if_pos hc] at HRC
  subst HRC
  have HTR:Hid (∀ W,Calls Tryz.prog 35 #[.string s] W fun e w'=>∃ (a:Option Addr) (n:Nat) (S:List Nat) (d:Nat),e = .returned (.tuple #[.agg #[.int .i64 8,.string ⟨#[]⟩,.float .f64 0,.slice a ks.length n,.int .i64 0],.int .i64 0,.int .i64 0]) ∧ KV 61 w' d ks (.slice a ks.length n) S ∧ Below W.heap.size W w'):=fun W=>(HSC.out W).mono fun e w' ht=>by
   rw [TreeR,if_pos hc] at ht
   obtain ⟨a,n,S,he,⟨d,hk⟩,-,hb⟩:=ht
   exact ⟨a,n,S,d + 1,he,hk,hb⟩
  clear HSC HR hc
  have HCM:=Lib.hid (fun d a n S W hk=>Compile_any (.mk 8 [] 0 ks 0) d a n S W hk (Nat.le_trans HW.out (by decide)))
  generalize codeC (.mk 8 [] 0 ks 0) = R at *
  go_enter Tryz.func13,Tryz.ntmps13
  go_upto_region 2 with (go_at_call 35;refine (HTR.out _).mono ?_;rintro e w2 ⟨a,n,S,d,rfl,hk,hb⟩)
  have hkb:=hk.below ((Below.refl _ _).alloc (Nat.le_refl _) (.cells #[.int .i64 8,.string ⟨#[]⟩,.float .f64 0,.slice a ks.length n,.int .i64 0] 61 (0,0)))
  have hn:=blk_new w2 (.cells #[.int .i64 8,.string ⟨#[]⟩,.float .f64 0,.slice a ks.length n,.int .i64 0] 61 (0,0))
  have HB3:Hid (Below w.heap.size w (w2.alloc (.cells #[.int .i64 8,.string ⟨#[]⟩,.float .f64 0,.slice a ks.length n,.int .i64 0] 61 (0,0)))):=hb.trans (((Below.refl _ _).alloc (Nat.le_refl _) _).mono hb.size)
  generalize hw3:w2.alloc (.cells #[.int .i64 8,.string ⟨#[]⟩,.float .f64 0,.slice a ks.length n,.int .i64 0] 61 (0,0)) = w3 at *
  have HCR:=Lib.hid (HCM.out d a n S w3 hkb)
  clear hk hb hkb HCM
  have p0:=blk_cell (hn) 0
  have p1:=blk_cell (hn) 1
  have p2:=blk_cell (hn) 2
  have p3:=blk_cell (hn) 3
  have p4:=blk_cell (hn) 4
  have pf0:=blk_free (hn) 0
  have pf1:=blk_free (hn) 1
  have pf2:=blk_free (hn) 2
  have pf3:=blk_free (hn) 3
  have pf4:=blk_free (hn) 4
  have pl:=blk_lt (hn)
  simp only [List.getElem?_toArray,List.getElem?_cons_zero,List.getElem?_cons_succ] at p0 p1 p2 p3 p4
  clear hn hw3
  cases R with
  | none =>
   simp only at HCR
   go_wp2_with (go_at_call 36;refine (HCR.out).mono ?_;rintro e w4 ⟨v4,rfl,hb4,rfl⟩;have HB4:=Lib.hid (HB3.out.trans (hb4.mono HB3.out.size));clear hb4)
   go_ret
   exact ⟨_,rfl,HB4.out,rfl⟩
  | some c =>
   simp only at HCR
   go_wp2_with (go_at_call 36;refine (HCR.out).mono ?_;rintro e w4 ⟨v4,rfl,hb4,hrow⟩;have HB4:=Lib.hid (HB3.out.trans (hb4.mono HB3.out.size));have HRW:=Lib.hid (crow_base hrow HB3.out.size);clear hb4 hrow)
   go_ret
   exact ⟨_,rfl,HB4.out,HRW.out⟩
 ·have HRC:=HR.out
  rw [if_neg hc] at HRC
  subst HRC
  have HTR:Hid (∀ W,Calls Tryz.prog 35 #[.string s] W fun e w'=>e = .returned (.tuple #[.agg #[.int .i64 0,.string ⟨#[]⟩,.float .f64 0,.slice none 0 0,.int .i64 0],.int .i64 s2.bad,.int .i64 s2.code]) ∧ Below W.heap.size W w'):=fun W=>(HSC.out W).mono fun e w' ht=>by
   rw [TreeR,if_neg hc] at ht
   exact ht
  have e1:(s2.code != 0) = true:=by simp [hc]
  clear HSC HR hc HW
  generalize s2.code = c2 at *
  generalize s2.bad = b2 at *
  go_enter Tryz.func13,Tryz.ntmps13
  go_upto_region 2 with (go_at_call 35;refine (HTR.out _).mono ?_;rintro e w2 ⟨rfl,hb⟩)
  have hn:=blk_new w2 (.cells #[.int .i64 0,.string ⟨#[]⟩,.float .f64 0,.slice none 0 0,.int .i64 0] 61 (0,0))
  have HB3:Hid (Below w.heap.size w (w2.alloc (.cells #[.int .i64 0,.string ⟨#[]⟩,.float .f64 0,.slice none 0 0,.int .i64 0] 61 (0,0)))):=hb.trans (((Below.refl _ _).alloc (Nat.le_refl _) _).mono hb.size)
  generalize hw3:w2.alloc (.cells #[.int .i64 0,.string ⟨#[]⟩,.float .f64 0,.slice none 0 0,.int .i64 0] 61 (0,0)) = w3 at *
  have HCR:Hid (Calls Tryz.prog 36 #[.agg #[.int .i64 0,.string ⟨#[]⟩,.float .f64 0,.slice none 0 0,.int .i64 0]] w3 fun e w'=>∃ (v:Value) (k:Int),e = .returned (.tuple #[v,.int .i64 k]) ∧ Below w3.heap.size w3 w'):=(Compile_any zero 1 none 0 [] w3 (KV.nilv _ _) (by decide)).mono fun e w' ⟨v,he,hb,_⟩=>⟨v,_,he,hb⟩
  clear hb
  have p0:=blk_cell (hn) 0
  have p1:=blk_cell (hn) 1
  have p2:=blk_cell (hn) 2
  have p3:=blk_cell (hn) 3
  have p4:=blk_cell (hn) 4
  have pf0:=blk_free (hn) 0
  have pf1:=blk_free (hn) 1
  have pf2:=blk_free (hn) 2
  have pf3:=blk_free (hn) 3
  have pf4:=blk_free (hn) 4
  have pl:=blk_lt (hn)
  simp only [List.getElem?_toArray,List.getElem?_cons_zero,List.getElem?_cons_succ] at p0 p1 p2 p3 p4
  clear hn hw3
  go_wp2_with (go_at_call 36;refine (HCR.out).mono ?_;rintro e w4 ⟨v4,k4,rfl,hb4⟩;have HB4:=Lib.hid (HB3.out.trans (hb4.mono HB3.out.size));clear hb4)
  go_ret
  exact ⟨_,rfl,HB4.out,rfl⟩
end Go.Proofs.YtmfpmandkhiknaaGreatDoor.mkr
namespace Go.Proofs.YtmfpmandkhiknaaGreatDoor.mkr
open Go Go.RowKit
open vmm
set_option maxRecDepth 1000000
def awS:List UInt8 := [115,101,116,32,97,32,61,32,49,32,47,32,48,59,32,115,101,116,32,98,32,61,32,97,32,45,32,97,59,32,100,111,32,115,116,97,116,40,34,102,34,41,59,32,102,97,105,108,32,98,32,38,32,34,33,34,59]
def awC:List Ins := [⟨1,0,4607182418800017408,[]⟩,⟨1,0,0,[]⟩,⟨10,0,0,[]⟩,⟨4,0,0,[]⟩,⟨3,0,0,[]⟩,⟨3,0,0,[]⟩,⟨8,0,0,[]⟩,⟨4,1,0,[]⟩,⟨2,0,0,[102]⟩,⟨17,1,0,[115,116,97,116]⟩,⟨18,0,0,[]⟩,⟨3,1,0,[]⟩,⟨2,0,0,[33]⟩,⟨12,0,0,[]⟩,⟨19,0,0,[]⟩,⟨0,0,0,[]⟩]
theorem aw_code:codeS awS = some awC:=by decide +kernel
def aw0:Mac:=newM ((machC awC).map (·.1)) 100
def aw1:Mac:=runM 101 aw0
def aw2:Mac:=giveM aw1 3
def aw3:Mac:=runM 101 aw2
theorem aw1_ok:(aw1.state == 1 && aw1.call.op == 1 && aw1.call.path == [102]) = true:=by decide +kernel
theorem aw3_ok:(aw3.state == 3 && aw3.errno == 2205 && aw3.text == [110,97,110,33]) = true:=by decide +kernel
end Go.Proofs.YtmfpmandkhiknaaGreatDoor.mkr
namespace Go.Proofs.YtmfpmandkhiknaaGreatDoor.mkr
open Go Go.RowKit
open heap vmm
open lex (run_store_float add0)
set_option maxRecDepth 100000
attribute [local go_sem] run_store_float
theorem Num_any (e:Int) (w:World):Calls Tryz.prog 14 #[.int .i64 e] w fun e' w'=>e' = .returned (.int .i64 e) ∧ w = w':=by
 go_enter Tryz.func14,Tryz.ntmps14
 go_wp2_with fail
 go_ret
 exact ⟨rfl,rfl⟩
theorem blk_lt' {w:World} {k:Nat} {o:Obj} (h:w.heap[k]? = some o):k < w.heap.size:=(Array.getElem?_eq_some_iff.1 h).1
structure MO (b:Nat) (w:World) (p:Nat) (m:Mac) (cv sv:Value) (C:Is):Prop where
 at':MAt w p m cv sv C
 hp:b ≤ p
 hs:∀ g ∈ sv.ownBlock.toList,b ≤ g
 hw:b ≤ w.heap.size
theorem MO.below {b:Nat} {w w':World} {p:Nat} {m:Mac} {cv sv:Value} {C:Is} (h:MO b w p m cv sv C) (hb:Below w.heap.size w w'):MO b w' p m cv sv C:=⟨h.at'.below hb,h.hp,h.hs,Nat.le_trans h.hw hb.size⟩
theorem MO.step {b:Nat} {w w':World} {p:Nat} {m m':Mac} {cv sv sv':Value} {C:Is} (h:MO b w p m cv sv C) (ha:MAt w' p m' cv sv' C) (hn:vmm.Next p sv w sv' w'):MO b w' p m' cv sv' C ∧ Below b w w':=by
 refine ⟨⟨ha,h.hp,fun g hg => ?_,Nat.le_trans h.hw hn.1.size⟩,hn.1.below h.hw (fun k hk => ?_)⟩
 ·rcases hn.2 g hg with e | e
  ·exact h.hs g e
  ·exact Nat.le_trans h.hw e
 ·rcases List.mem_cons.1 hk with e | e
  ·rw [e];exact h.hp
  ·exact h.hs k e
structure Apt (w:World) (p:Nat) (sv:Value) (k:Nat) (o:Obj):Prop where
 obj:w.heap[k]? = some o
 far:k ∉ p :: sv.ownBlock.toList
theorem Apt.step {w w':World} {p:Nat} {sv sv':Value} {k:Nat} {o:Obj} (h:Apt w p sv k o) (hn:vmm.Next p sv w sv' w'):Apt w' p sv' k o:=by
 have hl:=blk_lt' h.obj
 refine ⟨hn.1.kept h.obj h.far,fun hm => ?_⟩
 rcases List.mem_cons.1 hm with e | e
 ·exact h.far (by rw [e];exact List.mem_cons_self)
 ·rcases hn.2 k e with e2 | e2
  ·exact h.far (List.mem_cons_of_mem _ e2)
  ·omega
theorem Apt.below {w w':World} {p:Nat} {sv:Value} {k:Nat} {o:Obj} (h:Apt w p sv k o) (hb:Below w.heap.size w w'):Apt w' p sv k o:=⟨by rw [hb.block k (blk_lt' h.obj)];exact h.obj,h.far⟩
theorem Apt.start {b:Nat} {w:World} {p:Nat} {m:Mac} {cv sv:Value} {C:Is} (h:MO b w p m cv sv C) (o:Obj):Apt (w.alloc o) p sv w.heap.size o:=by
 obtain ⟨V,L,h1,-,-⟩:=h.at'
 refine ⟨blk_new w o,fun hm => ?_⟩
 have:=blk_lt h1.obj
 rcases List.mem_cons.1 hm with e | e
 ·omega
 ·have:=(h1.row.own_lt _ e).2
  omega
theorem run_o (b p:Nat) (m:Mac) (cv sv:Value) (C:Is) (n:Nat) (w:World) (h:MO b w p m cv sv C) (hn:m.fuel < n) :
  Calls Tryz.prog 15 #[.pointer (some ⟨p,0,none⟩)] w fun e w'=>e = .returned (.tuple #[.int .i64 (runM n m).state,cA (runM n m).call]) ∧ (∃ sv',MO b w' p (runM n m) cv sv' C ∧ vmm.Next p sv w sv' w') ∧ Below b w w':=
 (Run_any p m cv sv C n w h.at' hn).mono fun e w' ⟨sv',he,ha,hn⟩=>⟨he,⟨sv',(h.step ha hn).1,hn⟩,(h.step ha hn).2⟩
theorem give_o (b p:Nat) (m:Mac) (cv sv:Value) (C:Is) (i:Nat) (w:World) (h:MO b w p m cv sv C) (hst:m.state = 1) (hi:i ≤ 1000000) :
  Calls Tryz.prog 18 #[.pointer (some ⟨p,0,none⟩),ansV i] w fun e w'=>e = .returned (.int .i64 0) ∧ (∃ sv',MO b w' p (giveM m i) cv sv' C ∧ vmm.Next p sv w sv' w') ∧ Below b w w':=
 (Give_any p m cv sv C i w h.at' hst hi).mono fun e w' ⟨sv',he,ha,hn⟩=>⟨he,⟨sv',(h.step ha hn).1,hn⟩,(h.step ha hn).2⟩
theorem new_o (b:Nat) (v:Value) (c:List Ins) (f:Nat) (w:World) (h:CRow w b v c) (hc:CodeOk c) (hf:f ≤ 20000) (hb:b ≤ w.heap.size) :
  Calls Tryz.prog 12 #[v,.int .i64 f] w fun e w'=>∃ p cv,e = .returned (.tuple #[.pointer (some ⟨p,0,none⟩),.int .i64 0]) ∧ MO b w' p (newM ((machC c).map (·.1)) f) cv (.slice none 0 0) (machC c) ∧ w.heap.size ≤ p ∧ (∀ g ∈ cv.ownBlock.toList,w.heap.size ≤ g) ∧ Below w.heap.size w w':=
 (New_any v (machC c) f w (machC_row h) (.inr (fun e=>hc.ne (by unfold machC at e;simpa using e))) (by rw [machC_len];have:=hc.few;omega) hc.fair (machC_ok hc.nums) hf).mono fun e w' ⟨p,cv,he,ha,hp,hg,hbl⟩=>⟨p,cv,he,⟨ha,Nat.le_trans hb hp,by simp [Value.ownBlock],Nat.le_trans hb hbl.size⟩,hp,hg,hbl⟩
theorem aw1_st:aw1.state = 1 ∧ aw1.call.op = 1 ∧ aw1.call.path = [102]:=by
 have:=aw1_ok
 simp only [Bool.and_eq_true,beq_iff_eq] at this
 exact ⟨this.1.1,this.1.2,this.2⟩
theorem aw3_st:aw3.state = 3 ∧ aw3.errno = 2205 ∧ aw3.text = [110,97,110,33]:=by
 have:=aw3_ok
 simp only [Bool.and_eq_true,beq_iff_eq] at this
 exact ⟨this.1.1,this.1.2,this.2⟩
theorem aw2_fuel:aw2.fuel < 101:=by decide +kernel
set_option maxHeartbeats 2000000 in
theorem awake_any (w:World):Calls Tryz.prog 11 #[] w fun e w'=>e = .returned (.bool true) ∧ Below w.heap.size w w':=by
 have HCO:Hid (Calls Tryz.prog 13 #[.string ⟨#[115,101,116,32,97,32,61,32,49,32,47,32,48,59,32,115,101,116,32,98,32,61,32,97,32,45,32,97,59,32,100,111,32,115,116,97,116,40,34,102,34,41,59,32,102,97,105,108,32,98,32,38,32,34,33,34,59]⟩] w fun e w'=>∃ v,e = .returned v ∧ CRow w' w.heap.size v awC ∧ Below w.heap.size w w'):=(Code_any ⟨awS.toArray⟩ w (by decide)).mono fun e w' ⟨v,he,hb,hr⟩=>by
  have e1:codeS (⟨awS.toArray⟩:ByteArray).data.toList = some awC:=aw_code
  rw [e1] at hr
  exact ⟨v,he,hr,hb⟩
 have HNE:=Lib.hid (fun v W h hb=>new_o w.heap.size v awC 100 W h (codeS_ok aw_code) (by decide) hb)
 have HR1:=Lib.hid (fun p cv sv W h=>run_o w.heap.size p aw0 cv sv (machC awC) 101 W h (by decide))
 have e0:newM ((machC awC).map (·.1)) ((100:Nat):Int) = aw0:=rfl
 have e1:runM 101 aw0 = aw1:=rfl
 have HGV:=Lib.hid (fun p cv sv W h=>give_o w.heap.size p aw1 cv sv (machC awC) 3 W h aw1_st.1 (by decide))
 have e2:giveM aw1 3 = aw2:=rfl
 have HR2:=Lib.hid (fun p cv sv W h=>run_o w.heap.size p aw2 cv sv (machC awC) 101 W h aw2_fuel)
 have e3:runM 101 aw2 = aw3:=rfl
 have HER:=Lib.hid (fun p cv sv W (h:MO w.heap.size W p aw3 cv sv (machC awC))=>Error_any p aw3 cv sv (machC awC) W h.at')
 have HNB:=Lib.hid (fun W=>New_bad (-1) W (by decide))
 obtain ⟨s1,s2,s3⟩:=aw1_st
 obtain ⟨t1,t2,t3⟩:=aw3_st
 rw [e0] at HNE
 rw [e1] at HR1
 rw [e2] at HGV
 rw [e3] at HR2
 rw [s1] at HR1
 rw [t1] at HR2
 rw [t2,t3] at HER
 generalize aw0 = m0 at *
 clear e0 e1 e2 e3 t1 t2 t3 s1
 generalize aw3 = m3 at *
 generalize aw2 = m2 at *
 have HS:=Lib.hid (And.intro s2 s3)
 clear s2 s3
 generalize machC awC = C at *
 go_enter Tryz.func11,Tryz.ntmps11
 go_upto_region 2 with (first | (go_at_call 13;refine (HCO.out).mono ?_;rintro e w2 ⟨v,rfl,hr,hb⟩;have HRW:=Lib.hid hr;have HB2:=Lib.hid hb;clear hr hb) | (go_at_call 12;refine (HNE.out _ _ HRW.out HB2.out.size).mono ?_;rintro e w3 ⟨p,cv,rfl,hmo,-,-,hb⟩;have HM3:=Lib.hid hmo;have HB3:=Lib.hid (HB2.out.trans (hb.mono HB2.out.size));clear hmo hb))
 go_upto_region 3 with (go_at_call 15;refine (HR1.out _ _ _ _ HM3.out).mono ?_;rintro e w4 ⟨rfl,⟨sv4,hmo,-⟩,hb⟩;have HM4:=Lib.hid hmo;have HB4:=Lib.hid (HB3.out.trans hb);clear hmo hb)
 have HA5:=Lib.hid (Apt.start HM4.out (cO aw1.call))
 have HM5:=Lib.hid (HM4.out.below ((Below.refl _ _).alloc (Nat.le_refl _) (cO aw1.call)))
 have HB5:Hid (Below w.heap.size w (w4.alloc (cO aw1.call))):=HB4.out.alloc HB4.out.size _
 change Code.wp _ _ _ _ (w4.alloc (cO aw1.call))
 generalize w4.alloc (cO aw1.call) = w5 at *
 go_upto_region 4 with (go_at_call 18;refine (HGV.out _ _ _ _ HM5.out).mono ?_;rintro e w6 ⟨rfl,⟨sv6,hmo,hn⟩,hb⟩;have HM6:=Lib.hid hmo;have HB6:=Lib.hid (HB5.out.trans hb);have HA6:=Lib.hid (HA5.out.step hn);clear hmo hb hn)
 generalize (runM 101 m2).call = c7 at *
 go_upto_region 5 with (go_at_call 15;refine (HR2.out _ _ _ _ HM6.out).mono ?_;rintro e w7 ⟨rfl,⟨sv7,hmo,hn⟩,hb⟩;have HM7:=Lib.hid hmo;have HB7:=Lib.hid (HB6.out.trans hb);have HA7:=Lib.hid (HA6.out.step hn);clear hmo hb hn)
 have HM8:=Lib.hid (HM7.out.below ((Below.refl _ _).alloc (Nat.le_refl _) (cO m3.call)))
 have HA8:=Lib.hid (HA7.out.below ((Below.refl _ _).alloc (Nat.le_refl _) (cO m3.call)))
 have HB8:Hid (Below w.heap.size w (w7.alloc (cO m3.call))):=HB7.out.alloc HB7.out.size _
 change Code.wp _ _ _ _ (w7.alloc (cO m3.call))
 generalize w7.alloc (cO m3.call) = w8 at *
 go_upto_region 7 with (first | (go_at_call 16;refine (HER.out _ _ _ _ HM8.out).mono ?_;rintro e w9 ⟨rfl,hb⟩;have HB9:=Lib.hid (HB8.out.trans (hb.mono HB8.out.size));have HA9:=Lib.hid (HA8.out.below hb);clear hb) | (go_at_call 12;refine (HNB.out _).mono ?_;rintro e w10 ⟨rfl,hb⟩;have HB10:=Lib.hid (HB9.out.trans (hb.mono HB9.out.size));have HA10:=Lib.hid (HA9.out.below hb);clear hb))
 have hob:=HA10.out.obj
 obtain ⟨s2,s3⟩:=HS.out
 have n0:w10.cell? ⟨w4.heap.size,0,none⟩ = some (.int .i64 1):=by rw [← s2];exact blk_cell hob 0
 have n1:w10.cell? ⟨w4.heap.size,1,none⟩ = some (.string ⟨#[102]⟩):=by
  have:=blk_cell hob 1
  simp only [List.getElem?_toArray,List.getElem?_cons_zero,List.getElem?_cons_succ,s3] at this
  exact this
 have nl:=blk_lt hob
 clear hob s2 s3
 go_wp2_with (go_at_call 14;refine (Num_any _ _).mono ?_;rintro e w' ⟨rfl,rfl⟩)
 go_ret
 exact ⟨rfl,HB10.out⟩
end Go.Proofs.YtmfpmandkhiknaaGreatDoor.mkr
