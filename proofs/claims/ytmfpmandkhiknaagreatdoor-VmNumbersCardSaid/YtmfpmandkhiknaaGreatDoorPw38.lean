/-
  Proved: the document's maker of code lays an expression. Conditions: as each theorem says.
-/
import Derived.Test.YtmfpmandkhiknaaGreatDoorPw37
import Derived.Test.YtmfpmandkhiknaaGreatDoorPw34
set_option linter.unusedVariables false
set_option linter.unusedSimpArgs false
namespace Go.Proofs.YtmfpmandkhiknaaGreatDoor.mkr
open Go Go.RowKit
open heap vmm mapi
open par (Nd KV ndV ndO wt wtL)
open chk (Nm)
open many (fnT)
open lex (run_store_float add0)
set_option maxRecDepth 100000
attribute [local go_sem] run_store_float
abbrev PP (q:Nat):Value:=.pointer (some ⟨q,0,none⟩)
def kidsL:List (Int × Value) := [(15,.int .i64 0),(16,.int .i64 0),(14,.int .i64 0),(17,.int .i64 1),(18,.int .i64 2)]
theorem look_kids (k:Int):(lookI k kidsL 0).map (·.2) = (kidsE k).map (fun c=>(.int .i64 (c:Int):Value)):=by
 unfold kidsE kidsL
 by_cases h1:k = 15
 ·subst h1;rfl
 by_cases h2:k = 16
 ·subst h2;rfl
 by_cases h3:k = 14
 ·subst h3;rfl
 by_cases h4:k = 17
 ·subst h4;rfl
 by_cases h5:k = 18
 ·subst h5;rfl
 ·simp [lookI,h1,h2,h3,h4,h5]
theorem run_kids {W:World} {b:Nat} (h:MapI W b kidsL) (k:Int):(Instr.lookup 161 (.map (some b)) (.int .i64 k) true).run Tryz.prog W = .ok (.tuple #[.int .i64 (((kidsE k).getD 0:Nat):Int),.bool (kidsE k).isSome]) W:=by
 have h1:=run_lookup_ok (P:=Tryz.prog) h Tryz.underlying161 Tryz.underlying3 (.int .i64 0) (by kernel_rfl) k
 have h2:=look_kids k
 rw [h1]
 cases hl:lookI k kidsL 0 with
 | none =>
  rw [hl] at h2
  cases hk:kidsE k with
  | none=>rfl
  | some c=>rw [hk] at h2;cases h2
 | some r =>
  rw [hl] at h2
  cases hk:kidsE k with
  | none=>rw [hk] at h2;cases h2
  | some c =>
   rw [hk] at h2
   simp only [Option.map_some,Option.some.injEq] at h2
   simp [h2]
theorem mcast {w:World} {b:Nat} {l l':List (Int × Value)} (h:MapI w b l) (e:l = l'):MapI w b l':=e ▸ h
structure XI (B q b1:Nat) (x:Nd) (vk:Value) (w0:World) (c0 s0:Value) (m:MS) (wr:World) (cv sv:Value):Prop where
 ka:KA wr B q m cv sv
 box:wr.heap[b1]? = some (ndO x vk)
 stp:Stp q c0 s0 w0 cv sv wr
 far:b1 ∉ q :: (cv.ownBlock.toList ++ sv.ownBlock.toList)
theorem XI.step {B q b1:Nat} {x:Nd} {vk:Value} {w0 wr w':World} {c0 s0 cv sv cv' sv':Value} {m m':MS} (h:XI B q b1 x vk w0 c0 s0 m wr cv sv) (hc:KA w' B q m' cv' sv') (hg:Stp q cv sv wr cv' sv' w'):XI B q b1 x vk w0 c0 s0 m' w' cv' sv':=by
 have hb:=blk_lt h.box
 refine ⟨hc,hg.t.kept h.box h.far,h.stp.trans hg,fun hm => ?_⟩
 rcases List.mem_cons.1 hm with e | e
 ·exact h.far (by rw [e];exact List.mem_cons_self)
 ·rcases hg.own b1 e with e2 | e2
  ·exact h.far (List.mem_cons_of_mem _ e2)
  ·omega
theorem XI.below {B q b1:Nat} {x:Nd} {vk:Value} {w0 wr w':World} {c0 s0 cv sv:Value} {m:MS} (h:XI B q b1 x vk w0 c0 s0 m wr cv sv) (hb:Below wr.heap.size wr w'):XI B q b1 x vk w0 c0 s0 m w' cv sv:=h.step (h.ka.below hb) (Stp.of_below hb)
theorem KA.own {w:World} {B q:Nat} {m:MS} {cv sv:Value} (h:KA w B q m cv sv):∀ b ∈ q :: (cv.ownBlock.toList ++ sv.ownBlock.toList),B ≤ b ∧ b < w.heap.size:=by
 intro b hb
 rcases List.mem_cons.1 hb with e | e
 ·rw [e];exact ⟨h.bq,blk_lt h.obj⟩
 ·rcases List.mem_append.1 e with e | e
  ·exact h.code.lt b e
  ·exact h.slots.lt b e
theorem XI.start {B q:Nat} {x:Nd} {vk:Value} {w:World} {cv sv:Value} {m:MS} (h:KA w B q m cv sv):XI B q w.heap.size x vk w cv sv m (w.alloc (ndO x vk)) cv sv:=
 ⟨h.below ((Below.refl _ _).alloc (Nat.le_refl _) _),blk_new _ _,Stp.of_below ((Below.refl _ _).alloc (Nat.le_refl _) _),fun hm=>by have:=(h.own _ hm).2;omega⟩
theorem XI.size {B q b1:Nat} {x:Nd} {vk:Value} {w0 wr:World} {c0 s0 cv sv:Value} {m:MS} (h:XI B q b1 x vk w0 c0 s0 m wr cv sv):B ≤ wr.heap.size:=by
 have:=h.ka.own q List.mem_cons_self
 omega
theorem XI.cells {B q b1:Nat} {x:Nd} {vk:Value} {w0 wr:World} {c0 s0 cv sv:Value} {m:MS} (h:XI B q b1 x vk w0 c0 s0 m wr cv sv) :
  wr.cell? ⟨b1,0,none⟩ = some (.int .i64 x.kind) ∧ wr.cell? ⟨b1,1,none⟩ = some (.string ⟨x.text.toArray⟩) ∧ wr.cell? ⟨b1,2,none⟩ = some (.float .f64 x.num) ∧ wr.cell? ⟨b1,3,none⟩ = some vk ∧ wr.cell? ⟨b1,4,none⟩ = some (.int .i64 x.at') ∧ b1 < wr.heap.size ∧ wr.cell? ⟨q,0,none⟩ = some cv ∧ wr.cell? ⟨q,2,none⟩ = some (.bool m.bad) ∧ wr.frozen? ⟨q,2,none⟩ = false ∧ q < wr.heap.size:=
 ⟨blk_cell h.box 0,blk_cell h.box 1,blk_cell h.box 2,blk_cell h.box 3,blk_cell h.box 4,blk_lt h.box,blk_cell h.ka.obj 0,blk_cell h.ka.obj 2,blk_free h.ka.obj 2,blk_lt h.ka.obj⟩
def ExprAt (d:Nat):Prop:=∀ (x:Nd) (a:Option Addr) (n:Nat) (S:List Nat) (B q:Nat) (cv sv:Value) (m:MS) (w:World),KV 61 w d x.kids (.slice a x.kids.length n) S → (∀ b ∈ S,b < B) → KA w B q m cv sv → m.code.length + wt x ≤ 50000000 → m.slots.length ≤ 50000000 →
 Calls Tryz.prog 112 #[PP q,ndV x (.slice a x.kids.length n)] w (MkP B q cv sv w (exprC x m) (.tuple #[]))
set_option maxHeartbeats 8000000 in
theorem expr_step {d:Nat} (IH:ExprAt d):ExprAt (d + 1):=by
 intro x a n S B q cv sv m w hk hS hc hlen hsl
 have HK:=Lib.hid hk
 have HS:=Lib.hid hS
 have HC:=Lib.hid hc
 have HI:Hid (XI B q w.heap.size x (.slice a x.kids.length n) w cv sv m (w.alloc (ndO x (.slice a x.kids.length n))) cv sv):=XI.start hc
 have HKW:Hid (∀ (wr:World) (m':MS) (cv' sv':Value),XI B q w.heap.size x (.slice a x.kids.length n) w cv sv m' wr cv' sv' → KV 61 wr (d + 1) x.kids (.slice a x.kids.length n) S):=fun wr m' cv' sv' h=>HK.out.turned h.stp.t (fun b hb hm=>by
  have h1:=HS.out b hb
  have h2:=(HC.out.own b hm).1
  omega)
 have HLN:Hid (∀ (i:Nat) (y:Nd),x.kids[i]? = some y → (exprsC (x.kids.take i) m).code.length + wt y ≤ 50000000 ∧ (exprsC (x.kids.take i) m).slots.length ≤ 50000000):=fun i y hy=>by
  have h1:=few_exprs (x.kids.take i) m
  have h2:=wt_take x.kids i y hy
  have h3:=wt_kids x
  have:=h1.code
  have:=h1.slots
  omega
 have HKL:Hid ((exprsC x.kids m).code.length ≤ 50000000 ∧ (exprsC x.kids m).slots.length ≤ 50000000):=by
  have h1:=few_exprs x.kids m
  have h3:=wt_kids x
  have:=h1.code
  have:=h1.slots
  refine ⟨?_,?_⟩ <;> (show _ ≤ _;omega)
 have HEQ:=Lib.hid (expr_eq x m)
 clear hk hS hc hlen hsl
 generalize exprC x m = mF at *
 have hql:=HI.out.size
 go_enter Tryz.func112,Tryz.ntmps112
 go_upto_region 1 with fail
 change Code.wp _ _ _ _ (w.alloc (ndO x (.slice a x.kids.length n)))
 generalize w.alloc (ndO x (.slice a x.kids.length n)) = w1 at *
 generalize w.heap.size = b1 at *
 have hmm := @run_makeMap_plain Tryz.prog
 have HMI:=Lib.hid (MapI.new w1)
 have HBM:Hid (Below w1.heap.size w1 (w1.alloc (.map #[] 0))):=(Below.refl _ _).alloc (Nat.le_refl _) _
 go_upto_region 2 with (refine mapi.wpList_insert_new rfl rfl Tryz.underlying161 Tryz.underlying3 rfl rfl rfl HMI.out (by kernel_rfl) ?_;intro w' hm' ht';clear HMI;have HMI:=Lib.hid hm';have hb':=HBM.out.trans (ht'.below HBM.out.size (by simp));clear HBM;have HBM:=Lib.hid hb';clear hm' ht' hb')
 have HMK:Hid (MapI w' w1.heap.size kidsL):=mcast HMI.out (by kernel_rfl)
 have hlk:=run_kids HMK.out x.kind
 have HI2:=Lib.hid (HI.out.below HBM.out)
 clear HMI HBM HMK HI
 have HI:=HI2
 clear HI2
 generalize w1.heap.size = bm at *
 obtain ⟨p0,p1,p2,p3,p4,pl,k0,k2,kf2,kl⟩:=HI.out.cells
 by_cases k19:x.kind = 19
 ·have hfit:fitE x.kind x.kids.length = true:=by unfold fitE;rw [k19];rfl
  have e1:(x.kind != 19) = false:=by rw [k19];rfl
  have hke:kidsE x.kind = none:=by rw [k19];rfl
  rw [hke] at hlk
  simp only [Option.getD_none,Option.isSome_none] at hlk
  rw [k19] at hlk p0
  go_wp2_with fail
  go_loopg [7] x.kids.length (fun kk v7 wr=>∃ (i:Nat) (cv2 sv2:Value),i + kk = x.kids.length ∧ v7 = .int .i64 i ∧ Hid (XI B q b1 x (.slice a x.kids.length n) w cv sv (exprsC (x.kids.take i) m) wr cv2 sv2))
  case atStart=>exact ⟨0,_,_,by omega,rfl,HI.out⟩
  case round =>
   clear HI hlk
   obtain ⟨i,cv2,sv2,hik,rfl,HJ⟩:=hrel
   clear p0 p1 p2 p3 p4 pl k0 k2 kf2 kl
   obtain ⟨p0,p1,p2,p3,p4,pl,k0,k2,kf2,kl⟩:=HJ.out.cells
   by_cases hlt:i < x.kids.length
   ·cases gk with
    | zero=>omega
    | succ gk =>
    have hy:x.kids[i]? = some x.kids[i]:=List.getElem?_eq_getElem hlt
    generalize x.kids[i] = y at hy
    obtain ⟨g1,c1,s1,rfl,-,hg1,hcp1,hcp2,y0,y1,y2,y3,y4,hky,hsub⟩:=(HKW.out _ _ _ _ HJ.out).kid hy
    unfold maxLen at hcp2
    obtain ⟨a2,n2,rfl⟩:=hky.slice
    have HIH:=Lib.hid (IH y a2 n2 s1 B q cv2 sv2 _ wr hky (fun b hb=>HS.out b (hsub b hb)) HJ.out.ka (HLN.out i y hy).1 (HLN.out i y hy).2)
    have HY:Hid (exprsC (x.kids.take (i + 1)) m = exprC y (exprsC (x.kids.take i) m)):=exprs_snoc x.kids i y m hy
    clear hky hsub hy
    go_wp2_with (go_at_call 112;refine HIH.out.mono ?_;rintro e w5 ⟨rfl,cv5,sv5,hck,hcg⟩;have HJ2:=Lib.hid (HJ.out.step hck hcg);clear hck hcg)
    go_roundg gk
    case rel=>exact ⟨i + 1,cv5,sv5,by omega,by go_num,by rw [HY.out];exact HJ2.out⟩
    case measure=>omega
   ·have hik2:i = x.kids.length:=by omega
    subst hik2
    rw [List.take_length] at HJ
    have hkl:=HKL.out
    generalize exprsC x.kids m = mK at *
    obtain ⟨cK,sK,bK⟩:=mK
    clear p0 p1 p2 p3 p4 pl k0 k2 kf2 kl
    obtain ⟨p0,p1,p2,p3,p4,pl,k0,k2,kf2,kl⟩:=HJ.out.cells
    try rw [k19] at p0
    cases bK with
    | true =>
     have HFD:=Lib.hid (fun W=>rck.Find_any x.text W)
     unfold rck.FindP at HFD
     have HR:Hid (mF = MS.put ⟨cK,sK,true⟩ ⟨17,x.kids.length,0,x.text⟩):=by unfold Hid;rw [HEQ.out,if_pos hfit];(unfold finE;rw [if_neg (by omega),if_neg (by omega),if_neg (by omega),if_neg (by omega),if_neg (by omega)];simp [MS.flaw,bne,k19])
     generalize (fnT x.text).isSome = isq at *
     go_upto_region 11 with (go_at_call 153;refine (HFD.out _).mono ?_;rintro e w5 ⟨nm,nn,kf,rfl,hfn,hb5⟩)
     have hb6:=hb5.alloc (Nat.le_trans (by omega) hb5.size) (.cells #[sV nm,.int .i64 nn,.int .i64 kf] 185 (0,0))
     have HJ5:=Lib.hid (HJ.out.below hb6)
     have hfb:=blk_new w5 (.cells #[sV nm,.int .i64 nn,.int .i64 kf] 185 (0,0))
     generalize hw6:w5.alloc (.cells #[sV nm,.int .i64 nn,.int .i64 kf] 185 (0,0)) = w6 at *
     have n1:w6.cell? ⟨w5.heap.size,1,none⟩ = some (.int .i64 nn):=blk_cell hfb 1
     have nl:=blk_lt hfb
     clear hb5 hb6 hfb hw6
     clear p0 p1 p2 p3 p4 pl k0 k2 kf2 kl
     obtain ⟨p0,p1,p2,p3,p4,pl,k0,k2,kf2,kl⟩:=HJ5.out.cells
     go_upto_region 12 with fail
     have HJ3:Hid (XI B q b1 x (.slice a x.kids.length n) w cv sv ⟨cK,sK,true⟩ (w6.setCell ⟨q,2,none⟩ (.bool true)) cv2 sv2):=HJ5.out.step (HJ5.out.ka.mark true) (Stp.of_turned ((Turned.refl _ _).setCell (by simp) _))
     generalize (w6.setCell ⟨q,2,none⟩ (.bool true)) = wf at *
     clear p0 p1 p2 p3 p4 pl k0 k2 kf2 kl
     obtain ⟨p0,p1,p2,p3,p4,pl,k0,k2,kf2,kl⟩:=HJ3.out.cells
     have HP:=Lib.hid (fun W hk hB=>put_any B q (⟨cK,sK,true⟩) cv2 sv2 ⟨17,x.kids.length,0,x.text⟩ W hk hB (Nat.le_trans hkl.1 (by decide)))
     go_wp2_with (go_at_call 59;refine (HP.out _ HJ3.out.ka HJ3.out.size).mono ?_;rintro e w9 ⟨rfl,cv9,sv9,hka,hst⟩;have HKA9:=Lib.hid hka;have HST9:=Lib.hid (HJ3.out.stp.trans hst);clear hka hst)
     go_end0
     exact ⟨rfl,_,_,by rw [HR.out];exact HKA9.out,HST9.out⟩
    | false =>
     cases hft:fnT x.text with
     | none =>
      have HFD:=Lib.hid (fun W=>rck.Find_any x.text W)
      unfold rck.FindP at HFD
      rw [hft] at HFD
      simp only [Option.isSome_none] at HFD
      have HR:Hid (mF = MS.put ⟨cK,sK,true⟩ ⟨17,x.kids.length,0,x.text⟩):=by unfold Hid;rw [HEQ.out,if_pos hfit];(unfold finE;rw [if_neg (by omega),if_neg (by omega),if_neg (by omega),if_neg (by omega),if_neg (by omega)];simp [MS.flaw,bne,hft])
      go_upto_region 11 with (go_at_call 153;refine (HFD.out _).mono ?_;rintro e w5 ⟨nm,nn,kf,rfl,hfn,hb5⟩)
      have hb6:=hb5.alloc (Nat.le_trans (by omega) hb5.size) (.cells #[sV nm,.int .i64 nn,.int .i64 kf] 185 (0,0))
      have HJ5:=Lib.hid (HJ.out.below hb6)
      have hfb:=blk_new w5 (.cells #[sV nm,.int .i64 nn,.int .i64 kf] 185 (0,0))
      generalize hw6:w5.alloc (.cells #[sV nm,.int .i64 nn,.int .i64 kf] 185 (0,0)) = w6 at *
      have n1:w6.cell? ⟨w5.heap.size,1,none⟩ = some (.int .i64 nn):=blk_cell hfb 1
      have nl:=blk_lt hfb
      clear hb5 hb6 hfb hw6
      clear p0 p1 p2 p3 p4 pl k0 k2 kf2 kl
      obtain ⟨p0,p1,p2,p3,p4,pl,k0,k2,kf2,kl⟩:=HJ5.out.cells
      go_upto_region 12 with fail
      have HJ3:Hid (XI B q b1 x (.slice a x.kids.length n) w cv sv ⟨cK,sK,true⟩ (w6.setCell ⟨q,2,none⟩ (.bool true)) cv2 sv2):=HJ5.out.step (HJ5.out.ka.mark true) (Stp.of_turned ((Turned.refl _ _).setCell (by simp) _))
      generalize (w6.setCell ⟨q,2,none⟩ (.bool true)) = wf at *
      clear p0 p1 p2 p3 p4 pl k0 k2 kf2 kl
      obtain ⟨p0,p1,p2,p3,p4,pl,k0,k2,kf2,kl⟩:=HJ3.out.cells
      have HP:=Lib.hid (fun W hk hB=>put_any B q (⟨cK,sK,true⟩) cv2 sv2 ⟨17,x.kids.length,0,x.text⟩ W hk hB (Nat.le_trans hkl.1 (by decide)))
      go_wp2_with (go_at_call 59;refine (HP.out _ HJ3.out.ka HJ3.out.size).mono ?_;rintro e w9 ⟨rfl,cv9,sv9,hka,hst⟩;have HKA9:=Lib.hid hka;have HST9:=Lib.hid (HJ3.out.stp.trans hst);clear hka hst)
      go_end0
      exact ⟨rfl,_,_,by rw [HR.out];exact HKA9.out,HST9.out⟩
     | some mm =>
      have HFD:Hid (∀ W:World,Calls Tryz.prog 153 #[.string ⟨x.text.toArray⟩] W fun e w'=>∃ (nm:Nm) (nn kf:Int),e = .returned (.tuple #[.agg #[.string ⟨nm.toArray⟩,.int .i64 nn,.int .i64 kf],.bool true]) ∧ nn = mm ∧ Below W.heap.size W w'):=fun W=>(rck.Find_any x.text W).mono fun e w' ⟨nm,nn,kf,he,hf,hb⟩=>⟨nm,nn,kf,by rw [he,hft];rfl,hf mm hft,hb⟩
      by_cases hml:mm = x.kids.length
      ·have HR:Hid (mF = MS.put ⟨cK,sK,false⟩ ⟨17,x.kids.length,0,x.text⟩):=by unfold Hid;rw [HEQ.out,if_pos hfit];(unfold finE;rw [if_neg (by omega),if_neg (by omega),if_neg (by omega),if_neg (by omega),if_neg (by omega)];simp [MS.flaw,bne,hft,hml])
       have e7:(mm != (x.kids.length:Int)) = false:=by simp [hml]
       clear hml
       go_upto_region 11 with (go_at_call 153;refine (HFD.out _).mono ?_;rintro e w5 ⟨nm,nn,kf,rfl,rfl,hb5⟩)
       have hb6:=hb5.alloc (Nat.le_trans (by omega) hb5.size) (.cells #[sV nm,.int .i64 nn,.int .i64 kf] 185 (0,0))
       have HJ5:=Lib.hid (HJ.out.below hb6)
       have hfb:=blk_new w5 (.cells #[sV nm,.int .i64 nn,.int .i64 kf] 185 (0,0))
       generalize hw6:w5.alloc (.cells #[sV nm,.int .i64 nn,.int .i64 kf] 185 (0,0)) = w6 at *
       have n1:w6.cell? ⟨w5.heap.size,1,none⟩ = some (.int .i64 nn):=blk_cell hfb 1
       have nl:=blk_lt hfb
       clear hb5 hb6 hfb hw6
       clear p0 p1 p2 p3 p4 pl k0 k2 kf2 kl
       obtain ⟨p0,p1,p2,p3,p4,pl,k0,k2,kf2,kl⟩:=HJ5.out.cells
       go_upto_region 12 with fail
       have HJ3:Hid (XI B q b1 x (.slice a x.kids.length n) w cv sv ⟨cK,sK,false⟩ (w6.setCell ⟨q,2,none⟩ (.bool false)) cv2 sv2):=HJ5.out.step (HJ5.out.ka.mark false) (Stp.of_turned ((Turned.refl _ _).setCell (by simp) _))
       generalize (w6.setCell ⟨q,2,none⟩ (.bool false)) = wf at *
       clear p0 p1 p2 p3 p4 pl k0 k2 kf2 kl
       obtain ⟨p0,p1,p2,p3,p4,pl,k0,k2,kf2,kl⟩:=HJ3.out.cells
       have HP:=Lib.hid (fun W hk hB=>put_any B q (⟨cK,sK,false⟩) cv2 sv2 ⟨17,x.kids.length,0,x.text⟩ W hk hB (Nat.le_trans hkl.1 (by decide)))
       go_wp2_with (go_at_call 59;refine (HP.out _ HJ3.out.ka HJ3.out.size).mono ?_;rintro e w9 ⟨rfl,cv9,sv9,hka,hst⟩;have HKA9:=Lib.hid hka;have HST9:=Lib.hid (HJ3.out.stp.trans hst);clear hka hst)
       go_end0
       exact ⟨rfl,_,_,by rw [HR.out];exact HKA9.out,HST9.out⟩
      ·have e8:(mm == (x.kids.length:Int)) = false:=beq_eq_false_iff_ne.2 hml
       have HR:Hid (mF = MS.put ⟨cK,sK,true⟩ ⟨17,x.kids.length,0,x.text⟩):=by unfold Hid;rw [HEQ.out,if_pos hfit];(unfold finE;rw [if_neg (by omega),if_neg (by omega),if_neg (by omega),if_neg (by omega),if_neg (by omega)];simp [MS.flaw,bne,hft,e8])
       have e7:(mm != (x.kids.length:Int)) = true:=by simp [hml]
       clear hml
       go_upto_region 11 with (go_at_call 153;refine (HFD.out _).mono ?_;rintro e w5 ⟨nm,nn,kf,rfl,rfl,hb5⟩)
       have hb6:=hb5.alloc (Nat.le_trans (by omega) hb5.size) (.cells #[sV nm,.int .i64 nn,.int .i64 kf] 185 (0,0))
       have HJ5:=Lib.hid (HJ.out.below hb6)
       have hfb:=blk_new w5 (.cells #[sV nm,.int .i64 nn,.int .i64 kf] 185 (0,0))
       generalize hw6:w5.alloc (.cells #[sV nm,.int .i64 nn,.int .i64 kf] 185 (0,0)) = w6 at *
       have n1:w6.cell? ⟨w5.heap.size,1,none⟩ = some (.int .i64 nn):=blk_cell hfb 1
       have nl:=blk_lt hfb
       clear hb5 hb6 hfb hw6
       clear p0 p1 p2 p3 p4 pl k0 k2 kf2 kl
       obtain ⟨p0,p1,p2,p3,p4,pl,k0,k2,kf2,kl⟩:=HJ5.out.cells
       go_upto_region 12 with fail
       have HJ3:Hid (XI B q b1 x (.slice a x.kids.length n) w cv sv ⟨cK,sK,true⟩ (w6.setCell ⟨q,2,none⟩ (.bool true)) cv2 sv2):=HJ5.out.step (HJ5.out.ka.mark true) (Stp.of_turned ((Turned.refl _ _).setCell (by simp) _))
       generalize (w6.setCell ⟨q,2,none⟩ (.bool true)) = wf at *
       clear p0 p1 p2 p3 p4 pl k0 k2 kf2 kl
       obtain ⟨p0,p1,p2,p3,p4,pl,k0,k2,kf2,kl⟩:=HJ3.out.cells
       have HP:=Lib.hid (fun W hk hB=>put_any B q (⟨cK,sK,true⟩) cv2 sv2 ⟨17,x.kids.length,0,x.text⟩ W hk hB (Nat.le_trans hkl.1 (by decide)))
       go_wp2_with (go_at_call 59;refine (HP.out _ HJ3.out.ka HJ3.out.size).mono ?_;rintro e w9 ⟨rfl,cv9,sv9,hka,hst⟩;have HKA9:=Lib.hid hka;have HST9:=Lib.hid (HJ3.out.stp.trans hst);clear hka hst)
       go_end0
       exact ⟨rfl,_,_,by rw [HR.out];exact HKA9.out,HST9.out⟩
 ·have e1:(x.kind != 19) = true:=by simp [k19]
  cases hke:kidsE x.kind with
  | none =>
   have hfit:¬ fitE x.kind x.kids.length = true:=by unfold fitE;rw [hke];simp [k19]
   rw [hke] at hlk
   simp only [Option.getD_none,Option.isSome_none] at hlk
   have HR:Hid (mF = { m with bad:=true }):=by unfold Hid;rw [HEQ.out,if_neg hfit]
   go_wp2_with fail
   go_end0
   exact ⟨rfl,_,_,by rw [HR.out];exact HI.out.ka.mark true,HI.out.stp.trans (Stp.of_turned ((Turned.refl _ _).setCell (by simp) _))⟩
  | some c =>
   rw [hke] at hlk
   simp only [Option.getD_some,Option.isSome_some] at hlk
   by_cases hcn:c = x.kids.length
   ·have hfit:fitE x.kind x.kids.length = true:=by unfold fitE;rw [hke,hcn];simp
    have e2:((c:Int) != (x.kids.length:Int)) = false:=by simp [hcn]
    have hkd:x.kind = 15 ∨ x.kind = 16 ∨ x.kind = 14 ∨ x.kind = 17 ∨ x.kind = 18:=by
     unfold kidsE at hke
     split at hke
     ·omega
     split at hke
     ·omega
     split at hke
     ·omega
     ·cases hke
    clear hke hcn
    go_wp2_with fail
    go_loopg [7] x.kids.length (fun kk v7 wr=>∃ (i:Nat) (cv2 sv2:Value),i + kk = x.kids.length ∧ v7 = .int .i64 i ∧ Hid (XI B q b1 x (.slice a x.kids.length n) w cv sv (exprsC (x.kids.take i) m) wr cv2 sv2))
    case atStart=>exact ⟨0,_,_,by omega,rfl,HI.out⟩
    case round =>
     clear HI hlk
     obtain ⟨i,cv2,sv2,hik,rfl,HJ⟩:=hrel
     clear p0 p1 p2 p3 p4 pl k0 k2 kf2 kl
     obtain ⟨p0,p1,p2,p3,p4,pl,k0,k2,kf2,kl⟩:=HJ.out.cells
     by_cases hlt:i < x.kids.length
     ·cases gk with
      | zero=>omega
      | succ gk =>
      have hy:x.kids[i]? = some x.kids[i]:=List.getElem?_eq_getElem hlt
      generalize x.kids[i] = y at hy
      obtain ⟨g1,c1,s1,rfl,-,hg1,hcp1,hcp2,y0,y1,y2,y3,y4,hky,hsub⟩:=(HKW.out _ _ _ _ HJ.out).kid hy
      unfold maxLen at hcp2
      obtain ⟨a2,n2,rfl⟩:=hky.slice
      have HIH:=Lib.hid (IH y a2 n2 s1 B q cv2 sv2 _ wr hky (fun b hb=>HS.out b (hsub b hb)) HJ.out.ka (HLN.out i y hy).1 (HLN.out i y hy).2)
      have HY:Hid (exprsC (x.kids.take (i + 1)) m = exprC y (exprsC (x.kids.take i) m)):=exprs_snoc x.kids i y m hy
      clear hky hsub hy
      go_wp2_with (go_at_call 112;refine HIH.out.mono ?_;rintro e w5 ⟨rfl,cv5,sv5,hck,hcg⟩;have HJ2:=Lib.hid (HJ.out.step hck hcg);clear hck hcg)
      go_roundg gk
      case rel=>exact ⟨i + 1,cv5,sv5,by omega,by go_num,by rw [HY.out];exact HJ2.out⟩
      case measure=>omega
     ·have hik2:i = x.kids.length:=by omega
      subst hik2
      rw [List.take_length] at HJ
      have hkl:=HKL.out
      generalize exprsC x.kids m = mK at *
      obtain ⟨cK,sK,bK⟩:=mK
      clear p0 p1 p2 p3 p4 pl k0 k2 kf2 kl
      obtain ⟨p0,p1,p2,p3,p4,pl,k0,k2,kf2,kl⟩:=HJ.out.cells
      rcases hkd with hkd | hkd | hkd | hkd | hkd
      ·rw [hkd] at p0
       have HR:Hid (mF = MS.put ⟨cK,sK,bK⟩ ⟨1,0,x.num,[]⟩):=by unfold Hid;rw [HEQ.out,if_pos hfit];(unfold finE;rw [if_pos hkd])
       have HP:=Lib.hid (fun W hk hB=>put_any B q (⟨cK,sK,bK⟩) cv2 sv2 ⟨1,0,x.num,[]⟩ W hk hB (Nat.le_trans hkl.1 (by decide)))
       go_wp2_with (go_at_call 59;refine (HP.out _ HJ.out.ka HJ.out.size).mono ?_;rintro e w9 ⟨rfl,cv9,sv9,hka,hst⟩;have HKA9:=Lib.hid hka;have HST9:=Lib.hid (HJ.out.stp.trans hst);clear hka hst)
       go_end0
       exact ⟨rfl,_,_,by rw [HR.out];exact HKA9.out,HST9.out⟩
      ·rw [hkd] at p0
       have HR:Hid (mF = MS.put ⟨cK,sK,bK⟩ ⟨2,0,0,x.text⟩):=by unfold Hid;rw [HEQ.out,if_pos hfit];(unfold finE;rw [if_neg (by omega),if_pos hkd])
       have HP:=Lib.hid (fun W hk hB=>put_any B q (⟨cK,sK,bK⟩) cv2 sv2 ⟨2,0,0,x.text⟩ W hk hB (Nat.le_trans hkl.1 (by decide)))
       go_wp2_with (go_at_call 59;refine (HP.out _ HJ.out.ka HJ.out.size).mono ?_;rintro e w9 ⟨rfl,cv9,sv9,hka,hst⟩;have HKA9:=Lib.hid hka;have HST9:=Lib.hid (HJ.out.stp.trans hst);clear hka hst)
       go_end0
       exact ⟨rfl,_,_,by rw [HR.out];exact HKA9.out,HST9.out⟩
      ·rw [hkd] at p0
       have HSL:=Lib.hid (fun W hk=>slot_any B q ⟨cK,sK,bK⟩ cv2 sv2 x.text W hk (Nat.le_trans hkl.2 (by decide)))
       simp only at HSL
       obtain ⟨ks,hks⟩:∃ ks,slotOf sK x.text = ks:=⟨_,rfl⟩
       rw [hks] at HSL
       cases bK with
       | true =>
        have HR:Hid (mF = MS.put ⟨cK,sK,true⟩ ⟨3,ks,0,[]⟩):=by unfold Hid;rw [HEQ.out,if_pos hfit];(unfold finE;rw [if_neg (by omega),if_neg (by omega),if_pos hkd];simp [MS.flaw,hks])
        go_upto_region 20 with (go_at_call 113;refine (HSL.out _ HJ.out.ka).mono ?_;rintro e w5 ⟨rfl,hb5⟩;have HJ5:=Lib.hid (HJ.out.below hb5);clear p0 p1 p2 p3 p4 pl k0 k2 kf2 kl;obtain ⟨p0,p1,p2,p3,p4,pl,k0,k2,kf2,kl⟩:=HJ5.out.cells;clear hb5)
        have HJ3:Hid (XI B q b1 x (.slice a x.kids.length n) w cv sv ⟨cK,sK,true⟩ (w5.setCell ⟨q,2,none⟩ (.bool true)) cv2 sv2):=HJ5.out.step (HJ5.out.ka.mark true) (Stp.of_turned ((Turned.refl _ _).setCell (by simp) _))
        generalize (w5.setCell ⟨q,2,none⟩ (.bool true)) = wf at *
        clear p0 p1 p2 p3 p4 pl k0 k2 kf2 kl
        obtain ⟨p0,p1,p2,p3,p4,pl,k0,k2,kf2,kl⟩:=HJ3.out.cells
        have HP:=Lib.hid (fun W hk hB=>put_any B q (⟨cK,sK,true⟩) cv2 sv2 ⟨3,ks,0,[]⟩ W hk hB (Nat.le_trans hkl.1 (by decide)))
        go_wp2_with (go_at_call 59;refine (HP.out _ HJ3.out.ka HJ3.out.size).mono ?_;rintro e w9 ⟨rfl,cv9,sv9,hka,hst⟩;have HKA9:=Lib.hid hka;have HST9:=Lib.hid (HJ3.out.stp.trans hst);clear hka hst)
        go_end0
        exact ⟨rfl,_,_,by rw [HR.out];exact HKA9.out,HST9.out⟩
       | false =>
        by_cases hs:ks < 0
        ·have hd:decide (ks < 0) = true:=decide_eq_true hs
         have HR:Hid (mF = MS.put ⟨cK,sK,true⟩ ⟨3,ks,0,[]⟩):=by unfold Hid;rw [HEQ.out,if_pos hfit];(unfold finE;rw [if_neg (by omega),if_neg (by omega),if_pos hkd];simp [MS.flaw,hks,hs])
         go_upto_region 20 with (go_at_call 113;refine (HSL.out _ HJ.out.ka).mono ?_;rintro e w5 ⟨rfl,hb5⟩;have HJ5:=Lib.hid (HJ.out.below hb5);clear p0 p1 p2 p3 p4 pl k0 k2 kf2 kl;obtain ⟨p0,p1,p2,p3,p4,pl,k0,k2,kf2,kl⟩:=HJ5.out.cells;clear hb5)
         have HJ3:Hid (XI B q b1 x (.slice a x.kids.length n) w cv sv ⟨cK,sK,true⟩ (w5.setCell ⟨q,2,none⟩ (.bool true)) cv2 sv2):=HJ5.out.step (HJ5.out.ka.mark true) (Stp.of_turned ((Turned.refl _ _).setCell (by simp) _))
         generalize (w5.setCell ⟨q,2,none⟩ (.bool true)) = wf at *
         clear p0 p1 p2 p3 p4 pl k0 k2 kf2 kl
         obtain ⟨p0,p1,p2,p3,p4,pl,k0,k2,kf2,kl⟩:=HJ3.out.cells
         have HP:=Lib.hid (fun W hk hB=>put_any B q (⟨cK,sK,true⟩) cv2 sv2 ⟨3,ks,0,[]⟩ W hk hB (Nat.le_trans hkl.1 (by decide)))
         go_wp2_with (go_at_call 59;refine (HP.out _ HJ3.out.ka HJ3.out.size).mono ?_;rintro e w9 ⟨rfl,cv9,sv9,hka,hst⟩;have HKA9:=Lib.hid hka;have HST9:=Lib.hid (HJ3.out.stp.trans hst);clear hka hst)
         go_end0
         exact ⟨rfl,_,_,by rw [HR.out];exact HKA9.out,HST9.out⟩
        ·have hd:decide (ks < 0) = false:=decide_eq_false hs
         have HR:Hid (mF = MS.put ⟨cK,sK,false⟩ ⟨3,ks,0,[]⟩):=by unfold Hid;rw [HEQ.out,if_pos hfit];(unfold finE;rw [if_neg (by omega),if_neg (by omega),if_pos hkd];simp [MS.flaw,hks,hs])
         go_upto_region 20 with (go_at_call 113;refine (HSL.out _ HJ.out.ka).mono ?_;rintro e w5 ⟨rfl,hb5⟩;have HJ5:=Lib.hid (HJ.out.below hb5);clear p0 p1 p2 p3 p4 pl k0 k2 kf2 kl;obtain ⟨p0,p1,p2,p3,p4,pl,k0,k2,kf2,kl⟩:=HJ5.out.cells;clear hb5)
         have HJ3:Hid (XI B q b1 x (.slice a x.kids.length n) w cv sv ⟨cK,sK,false⟩ (w5.setCell ⟨q,2,none⟩ (.bool false)) cv2 sv2):=HJ5.out.step (HJ5.out.ka.mark false) (Stp.of_turned ((Turned.refl _ _).setCell (by simp) _))
         generalize (w5.setCell ⟨q,2,none⟩ (.bool false)) = wf at *
         clear p0 p1 p2 p3 p4 pl k0 k2 kf2 kl
         obtain ⟨p0,p1,p2,p3,p4,pl,k0,k2,kf2,kl⟩:=HJ3.out.cells
         have HP:=Lib.hid (fun W hk hB=>put_any B q (⟨cK,sK,false⟩) cv2 sv2 ⟨3,ks,0,[]⟩ W hk hB (Nat.le_trans hkl.1 (by decide)))
         go_wp2_with (go_at_call 59;refine (HP.out _ HJ3.out.ka HJ3.out.size).mono ?_;rintro e w9 ⟨rfl,cv9,sv9,hka,hst⟩;have HKA9:=Lib.hid hka;have HST9:=Lib.hid (HJ3.out.stp.trans hst);clear hka hst)
         go_end0
         exact ⟨rfl,_,_,by rw [HR.out];exact HKA9.out,HST9.out⟩
      ·rw [hkd] at p0
       by_cases ht:x.text = [33]
       ·rw [ht] at p1
        cases bK with
        | true =>
         have HR:Hid (mF = MS.put ⟨cK,sK,true⟩ ⟨6,0,0,[]⟩):=by unfold Hid;rw [HEQ.out,if_pos hfit];(unfold finE;rw [if_neg (by omega),if_neg (by omega),if_neg (by omega),if_pos hkd];simp [MS.flaw,ht])
         go_upto_region 26 with fail
         have HJ3:Hid (XI B q b1 x (.slice a x.kids.length n) w cv sv ⟨cK,sK,true⟩ (wr.setCell ⟨q,2,none⟩ (.bool true)) cv2 sv2):=HJ.out.step (HJ.out.ka.mark true) (Stp.of_turned ((Turned.refl _ _).setCell (by simp) _))
         generalize (wr.setCell ⟨q,2,none⟩ (.bool true)) = wf at *
         clear p0 p1 p2 p3 p4 pl k0 k2 kf2 kl
         obtain ⟨p0,p1,p2,p3,p4,pl,k0,k2,kf2,kl⟩:=HJ3.out.cells
         have HP:=Lib.hid (fun W hk hB=>put_any B q (⟨cK,sK,true⟩) cv2 sv2 ⟨6,0,0,[]⟩ W hk hB (Nat.le_trans hkl.1 (by decide)))
         go_wp2_with (go_at_call 59;refine (HP.out _ HJ3.out.ka HJ3.out.size).mono ?_;rintro e w9 ⟨rfl,cv9,sv9,hka,hst⟩;have HKA9:=Lib.hid hka;have HST9:=Lib.hid (HJ3.out.stp.trans hst);clear hka hst)
         go_end0
         exact ⟨rfl,_,_,by rw [HR.out];exact HKA9.out,HST9.out⟩
        | false =>
         have HR:Hid (mF = MS.put ⟨cK,sK,false⟩ ⟨6,0,0,[]⟩):=by unfold Hid;rw [HEQ.out,if_pos hfit];(unfold finE;rw [if_neg (by omega),if_neg (by omega),if_neg (by omega),if_pos hkd];simp [MS.flaw,ht])
         go_upto_region 26 with fail
         have HJ3:Hid (XI B q b1 x (.slice a x.kids.length n) w cv sv ⟨cK,sK,false⟩ (wr.setCell ⟨q,2,none⟩ (.bool false)) cv2 sv2):=HJ.out.step (HJ.out.ka.mark false) (Stp.of_turned ((Turned.refl _ _).setCell (by simp) _))
         generalize (wr.setCell ⟨q,2,none⟩ (.bool false)) = wf at *
         clear p0 p1 p2 p3 p4 pl k0 k2 kf2 kl
         obtain ⟨p0,p1,p2,p3,p4,pl,k0,k2,kf2,kl⟩:=HJ3.out.cells
         have HP:=Lib.hid (fun W hk hB=>put_any B q (⟨cK,sK,false⟩) cv2 sv2 ⟨6,0,0,[]⟩ W hk hB (Nat.le_trans hkl.1 (by decide)))
         go_wp2_with (go_at_call 59;refine (HP.out _ HJ3.out.ka HJ3.out.size).mono ?_;rintro e w9 ⟨rfl,cv9,sv9,hka,hst⟩;have HKA9:=Lib.hid hka;have HST9:=Lib.hid (HJ3.out.stp.trans hst);clear hka hst)
         go_end0
         exact ⟨rfl,_,_,by rw [HR.out];exact HKA9.out,HST9.out⟩
       ·by_cases ht2:x.text = [45]
        ·rw [ht2] at p1
         have ht:=ht2
         cases bK with
         | true =>
          have HR:Hid (mF = MS.put ⟨cK,sK,true⟩ ⟨5,0,0,[]⟩):=by unfold Hid;rw [HEQ.out,if_pos hfit];(unfold finE;rw [if_neg (by omega),if_neg (by omega),if_neg (by omega),if_pos hkd];simp [MS.flaw,ht])
          go_upto_region 26 with fail
          have HJ3:Hid (XI B q b1 x (.slice a x.kids.length n) w cv sv ⟨cK,sK,true⟩ (wr.setCell ⟨q,2,none⟩ (.bool true)) cv2 sv2):=HJ.out.step (HJ.out.ka.mark true) (Stp.of_turned ((Turned.refl _ _).setCell (by simp) _))
          generalize (wr.setCell ⟨q,2,none⟩ (.bool true)) = wf at *
          clear p0 p1 p2 p3 p4 pl k0 k2 kf2 kl
          obtain ⟨p0,p1,p2,p3,p4,pl,k0,k2,kf2,kl⟩:=HJ3.out.cells
          have HP:=Lib.hid (fun W hk hB=>put_any B q (⟨cK,sK,true⟩) cv2 sv2 ⟨5,0,0,[]⟩ W hk hB (Nat.le_trans hkl.1 (by decide)))
          go_wp2_with (go_at_call 59;refine (HP.out _ HJ3.out.ka HJ3.out.size).mono ?_;rintro e w9 ⟨rfl,cv9,sv9,hka,hst⟩;have HKA9:=Lib.hid hka;have HST9:=Lib.hid (HJ3.out.stp.trans hst);clear hka hst)
          go_end0
          exact ⟨rfl,_,_,by rw [HR.out];exact HKA9.out,HST9.out⟩
         | false =>
          have HR:Hid (mF = MS.put ⟨cK,sK,false⟩ ⟨5,0,0,[]⟩):=by unfold Hid;rw [HEQ.out,if_pos hfit];(unfold finE;rw [if_neg (by omega),if_neg (by omega),if_neg (by omega),if_pos hkd];simp [MS.flaw,ht])
          go_upto_region 26 with fail
          have HJ3:Hid (XI B q b1 x (.slice a x.kids.length n) w cv sv ⟨cK,sK,false⟩ (wr.setCell ⟨q,2,none⟩ (.bool false)) cv2 sv2):=HJ.out.step (HJ.out.ka.mark false) (Stp.of_turned ((Turned.refl _ _).setCell (by simp) _))
          generalize (wr.setCell ⟨q,2,none⟩ (.bool false)) = wf at *
          clear p0 p1 p2 p3 p4 pl k0 k2 kf2 kl
          obtain ⟨p0,p1,p2,p3,p4,pl,k0,k2,kf2,kl⟩:=HJ3.out.cells
          have HP:=Lib.hid (fun W hk hB=>put_any B q (⟨cK,sK,false⟩) cv2 sv2 ⟨5,0,0,[]⟩ W hk hB (Nat.le_trans hkl.1 (by decide)))
          go_wp2_with (go_at_call 59;refine (HP.out _ HJ3.out.ka HJ3.out.size).mono ?_;rintro e w9 ⟨rfl,cv9,sv9,hka,hst⟩;have HKA9:=Lib.hid hka;have HST9:=Lib.hid (HJ3.out.stp.trans hst);clear hka hst)
          go_end0
          exact ⟨rfl,_,_,by rw [HR.out];exact HKA9.out,HST9.out⟩
        ·have g1:(x.text == [33]) = false:=beq_eq_false_iff_ne.2 ht
         have g2:(x.text == [45]) = false:=beq_eq_false_iff_ne.2 ht2
         have ht:¬ x.text = [33] ∧ ¬ x.text = [45]:=⟨ht,ht2⟩
         cases bK with
         | true =>
          have HR:Hid (mF = MS.put ⟨cK,sK,true⟩ ⟨5,0,0,[]⟩):=by unfold Hid;rw [HEQ.out,if_pos hfit];(unfold finE;rw [if_neg (by omega),if_neg (by omega),if_neg (by omega),if_pos hkd];simp [MS.flaw,ht,bne,g1,g2])
          go_upto_region 26 with fail
          have HJ3:Hid (XI B q b1 x (.slice a x.kids.length n) w cv sv ⟨cK,sK,true⟩ (wr.setCell ⟨q,2,none⟩ (.bool true)) cv2 sv2):=HJ.out.step (HJ.out.ka.mark true) (Stp.of_turned ((Turned.refl _ _).setCell (by simp) _))
          generalize (wr.setCell ⟨q,2,none⟩ (.bool true)) = wf at *
          clear p0 p1 p2 p3 p4 pl k0 k2 kf2 kl
          obtain ⟨p0,p1,p2,p3,p4,pl,k0,k2,kf2,kl⟩:=HJ3.out.cells
          have HP:=Lib.hid (fun W hk hB=>put_any B q (⟨cK,sK,true⟩) cv2 sv2 ⟨5,0,0,[]⟩ W hk hB (Nat.le_trans hkl.1 (by decide)))
          go_wp2_with (go_at_call 59;refine (HP.out _ HJ3.out.ka HJ3.out.size).mono ?_;rintro e w9 ⟨rfl,cv9,sv9,hka,hst⟩;have HKA9:=Lib.hid hka;have HST9:=Lib.hid (HJ3.out.stp.trans hst);clear hka hst)
          go_end0
          exact ⟨rfl,_,_,by rw [HR.out];exact HKA9.out,HST9.out⟩
         | false =>
          have HR:Hid (mF = MS.put ⟨cK,sK,true⟩ ⟨5,0,0,[]⟩):=by unfold Hid;rw [HEQ.out,if_pos hfit];(unfold finE;rw [if_neg (by omega),if_neg (by omega),if_neg (by omega),if_pos hkd];simp [MS.flaw,ht,bne,g1,g2])
          go_upto_region 26 with fail
          have HJ3:Hid (XI B q b1 x (.slice a x.kids.length n) w cv sv ⟨cK,sK,true⟩ (wr.setCell ⟨q,2,none⟩ (.bool true)) cv2 sv2):=HJ.out.step (HJ.out.ka.mark true) (Stp.of_turned ((Turned.refl _ _).setCell (by simp) _))
          generalize (wr.setCell ⟨q,2,none⟩ (.bool true)) = wf at *
          clear p0 p1 p2 p3 p4 pl k0 k2 kf2 kl
          obtain ⟨p0,p1,p2,p3,p4,pl,k0,k2,kf2,kl⟩:=HJ3.out.cells
          have HP:=Lib.hid (fun W hk hB=>put_any B q (⟨cK,sK,true⟩) cv2 sv2 ⟨5,0,0,[]⟩ W hk hB (Nat.le_trans hkl.1 (by decide)))
          go_wp2_with (go_at_call 59;refine (HP.out _ HJ3.out.ka HJ3.out.size).mono ?_;rintro e w9 ⟨rfl,cv9,sv9,hka,hst⟩;have HKA9:=Lib.hid hka;have HST9:=Lib.hid (HJ3.out.stp.trans hst);clear hka hst)
          go_end0
          exact ⟨rfl,_,_,by rw [HR.out];exact HKA9.out,HST9.out⟩
      ·rw [hkd] at p0
       have HOP:=Lib.hid (fun W=>op_any x.text W)
       obtain ⟨ks,hks⟩:∃ ks,opOf x.text = ks:=⟨_,rfl⟩
       rw [hks] at HOP
       cases bK with
       | true =>
        have HR:Hid (mF = MS.put ⟨cK,sK,true⟩ ⟨ks,0,0,[]⟩):=by unfold Hid;rw [HEQ.out,if_pos hfit];(unfold finE;rw [if_neg (by omega),if_neg (by omega),if_neg (by omega),if_neg (by omega),if_pos hkd];simp [MS.flaw,hks])
        go_upto_region 30 with (go_at_call 152;refine (HOP.out _).mono ?_;rintro e w5 ⟨rfl,hb5⟩;have HJ5:=Lib.hid (HJ.out.below hb5);clear p0 p1 p2 p3 p4 pl k0 k2 kf2 kl;obtain ⟨p0,p1,p2,p3,p4,pl,k0,k2,kf2,kl⟩:=HJ5.out.cells;clear hb5)
        have HJ3:Hid (XI B q b1 x (.slice a x.kids.length n) w cv sv ⟨cK,sK,true⟩ (w5.setCell ⟨q,2,none⟩ (.bool true)) cv2 sv2):=HJ5.out.step (HJ5.out.ka.mark true) (Stp.of_turned ((Turned.refl _ _).setCell (by simp) _))
        generalize (w5.setCell ⟨q,2,none⟩ (.bool true)) = wf at *
        clear p0 p1 p2 p3 p4 pl k0 k2 kf2 kl
        obtain ⟨p0,p1,p2,p3,p4,pl,k0,k2,kf2,kl⟩:=HJ3.out.cells
        have HP:=Lib.hid (fun W hk hB=>put_any B q (⟨cK,sK,true⟩) cv2 sv2 ⟨ks,0,0,[]⟩ W hk hB (Nat.le_trans hkl.1 (by decide)))
        go_wp2_with (go_at_call 59;refine (HP.out _ HJ3.out.ka HJ3.out.size).mono ?_;rintro e w9 ⟨rfl,cv9,sv9,hka,hst⟩;have HKA9:=Lib.hid hka;have HST9:=Lib.hid (HJ3.out.stp.trans hst);clear hka hst)
        go_end0
        exact ⟨rfl,_,_,by rw [HR.out];exact HKA9.out,HST9.out⟩
       | false =>
        by_cases hs:ks < 0
        ·have hd:decide (ks < 0) = true:=decide_eq_true hs
         have HR:Hid (mF = MS.put ⟨cK,sK,true⟩ ⟨ks,0,0,[]⟩):=by unfold Hid;rw [HEQ.out,if_pos hfit];(unfold finE;rw [if_neg (by omega),if_neg (by omega),if_neg (by omega),if_neg (by omega),if_pos hkd];simp [MS.flaw,hks,hs])
         go_upto_region 30 with (go_at_call 152;refine (HOP.out _).mono ?_;rintro e w5 ⟨rfl,hb5⟩;have HJ5:=Lib.hid (HJ.out.below hb5);clear p0 p1 p2 p3 p4 pl k0 k2 kf2 kl;obtain ⟨p0,p1,p2,p3,p4,pl,k0,k2,kf2,kl⟩:=HJ5.out.cells;clear hb5)
         have HJ3:Hid (XI B q b1 x (.slice a x.kids.length n) w cv sv ⟨cK,sK,true⟩ (w5.setCell ⟨q,2,none⟩ (.bool true)) cv2 sv2):=HJ5.out.step (HJ5.out.ka.mark true) (Stp.of_turned ((Turned.refl _ _).setCell (by simp) _))
         generalize (w5.setCell ⟨q,2,none⟩ (.bool true)) = wf at *
         clear p0 p1 p2 p3 p4 pl k0 k2 kf2 kl
         obtain ⟨p0,p1,p2,p3,p4,pl,k0,k2,kf2,kl⟩:=HJ3.out.cells
         have HP:=Lib.hid (fun W hk hB=>put_any B q (⟨cK,sK,true⟩) cv2 sv2 ⟨ks,0,0,[]⟩ W hk hB (Nat.le_trans hkl.1 (by decide)))
         go_wp2_with (go_at_call 59;refine (HP.out _ HJ3.out.ka HJ3.out.size).mono ?_;rintro e w9 ⟨rfl,cv9,sv9,hka,hst⟩;have HKA9:=Lib.hid hka;have HST9:=Lib.hid (HJ3.out.stp.trans hst);clear hka hst)
         go_end0
         exact ⟨rfl,_,_,by rw [HR.out];exact HKA9.out,HST9.out⟩
        ·have hd:decide (ks < 0) = false:=decide_eq_false hs
         have HR:Hid (mF = MS.put ⟨cK,sK,false⟩ ⟨ks,0,0,[]⟩):=by unfold Hid;rw [HEQ.out,if_pos hfit];(unfold finE;rw [if_neg (by omega),if_neg (by omega),if_neg (by omega),if_neg (by omega),if_pos hkd];simp [MS.flaw,hks,hs])
         go_upto_region 30 with (go_at_call 152;refine (HOP.out _).mono ?_;rintro e w5 ⟨rfl,hb5⟩;have HJ5:=Lib.hid (HJ.out.below hb5);clear p0 p1 p2 p3 p4 pl k0 k2 kf2 kl;obtain ⟨p0,p1,p2,p3,p4,pl,k0,k2,kf2,kl⟩:=HJ5.out.cells;clear hb5)
         have HJ3:Hid (XI B q b1 x (.slice a x.kids.length n) w cv sv ⟨cK,sK,false⟩ (w5.setCell ⟨q,2,none⟩ (.bool false)) cv2 sv2):=HJ5.out.step (HJ5.out.ka.mark false) (Stp.of_turned ((Turned.refl _ _).setCell (by simp) _))
         generalize (w5.setCell ⟨q,2,none⟩ (.bool false)) = wf at *
         clear p0 p1 p2 p3 p4 pl k0 k2 kf2 kl
         obtain ⟨p0,p1,p2,p3,p4,pl,k0,k2,kf2,kl⟩:=HJ3.out.cells
         have HP:=Lib.hid (fun W hk hB=>put_any B q (⟨cK,sK,false⟩) cv2 sv2 ⟨ks,0,0,[]⟩ W hk hB (Nat.le_trans hkl.1 (by decide)))
         go_wp2_with (go_at_call 59;refine (HP.out _ HJ3.out.ka HJ3.out.size).mono ?_;rintro e w9 ⟨rfl,cv9,sv9,hka,hst⟩;have HKA9:=Lib.hid hka;have HST9:=Lib.hid (HJ3.out.stp.trans hst);clear hka hst)
         go_end0
         exact ⟨rfl,_,_,by rw [HR.out];exact HKA9.out,HST9.out⟩
   ·have hfit:¬ fitE x.kind x.kids.length = true:=by unfold fitE;rw [hke];simp [k19,hcn]
    have e2:((c:Int) != (x.kids.length:Int)) = true:=by simp;omega
    have HR:Hid (mF = { m with bad:=true }):=by unfold Hid;rw [HEQ.out,if_neg hfit]
    go_wp2_with fail
    go_end0
    exact ⟨rfl,_,_,by rw [HR.out];exact HI.out.ka.mark true,HI.out.stp.trans (Stp.of_turned ((Turned.refl _ _).setCell (by simp) _))⟩
theorem expr_all:∀ d,ExprAt d
 | 0=>fun x a n S B q cv sv m w hk=>hk.elim
 | d + 1=>expr_step (expr_all d)
end Go.Proofs.YtmfpmandkhiknaaGreatDoor.mkr
