/-
  Proved: that awake of the parser's laws says true. Conditions: as each theorem says.
  Proved: SameTree tells that two trees of one shape are the same. Conditions: as each theorem says.
  Proved: SpoilTree writes over a tree's kinds and leaves the rest of the memory. Conditions: as each theorem says.
  Proved: that ParseRecipes says true, of every text. Conditions: as each theorem says.
-/
import Derived.Test.YtmfpmandkhiknaaGreatDoorPr32
import Derived.Test.YtmfpmandkhiknaaGreatDoorPr12
import Derived.Test.YtmfpmandkhiknaaGreatDoorPr24
import Derived.StillTailTactics
import Derived.BigQuiet
set_option linter.unusedVariables false
set_option linter.unusedSimpArgs false
namespace Go.Proofs.YtmfpmandkhiknaaGreatDoor.qar
open par
open Go.RowKit
open heap
open lex (Tk TRow TkAt run_store_float add0 scanL Tokens_any tab_below)
open many (envOf st0 recipeR)
open num (list_len)
set_option maxRecDepth 1000000
attribute [local go_sem] run_store_float field_tok0 field_tok1 field_tok3
theorem Num_any (e:Int) (w:World):Calls Tryz.prog 14 #[.int .i64 e] w fun e' w'=>e' = .returned (.int .i64 e) ∧ w = w':=by
 go_enter Tryz.func14,Tryz.ntmps14
 go_wp2_with fail
 go_ret
 exact ⟨rfl,rfl⟩
structure Gl (w:World):Prop where
 tab:Lib.TabIs Tryz.prog w "strings.asciiSpace" .u8 Lib.asciiSpaceTab
 mx:∃ m:Int,w.cell? ⟨1,0,none⟩ = some (.int .i64 m)
theorem Gl.below {w w':World} (h:Gl w) (hb:Below w.heap.size w w'):Gl w':=by
 obtain ⟨h1,m,hm⟩:=h
 exact ⟨tab_below h1 hb,m,by rw [hb.cell (p:=⟨1,0,none⟩) (World.block_lt_of_cell? w ⟨1,0,none⟩ hm)];exact hm⟩
def awS:List UInt8 := [115,101,116,32,97,32,61,32,49,32,45,32,50,32,45,32,51,59]
def awR:List UInt8 := [102,114,111,109,32,34,34,59,32,114,117,110,32,123]
def okS (r:Option (List Nd × PS)):Bool:=match r with
 | some ([.mk _ _ _ [.mk _ _ _ [.mk k _ _ _ _,_] _] _],s)=>k == 18 && s.code == 0
 | _=>false
def okR (r:Option (Nd × PS)):Bool:=match r with
 | some (_,s)=>s.code == 1900 && s.bad == 14
 | _=>false
theorem awS_ok:okS (stmtsR (envOf awS) 1600024 100002 [] st0) = true:=by decide +kernel
theorem awR_ok:okR (recipeR (envOf awR) 1600024 100002 100002 st0) = true:=by decide +kernel
theorem aw_script (w:World) (hg:Gl w):Calls Tryz.prog 29 #[.string ⟨awS.toArray⟩] w fun e w'=>∃ (g g1 g2 n l1 n1 n2:Nat),e = .returned (.tuple #[.agg #[.int .i64 8,.string ⟨#[]⟩,.float .f64 0,.slice (some ⟨g,0,none⟩) 1 n,.int .i64 0],.int .i64 0,.int .i64 0]) ∧
  w'.cell? ⟨g,3,none⟩ = some (.slice (some ⟨g1,0,none⟩) 1 n1) ∧ w'.cell? ⟨g1,3,none⟩ = some (.slice (some ⟨g2,0,none⟩) 2 n2) ∧ w'.cell? ⟨g2,0,none⟩ = some (.int .i64 18) ∧ 1 ≤ n ∧ n ≤ maxLen ∧ 1 ≤ n1 ∧ n1 ≤ maxLen ∧ 2 ≤ n2 ∧ n2 ≤ maxLen ∧ Below w.heap.size w w':=by
 have h:=awS_ok
 unfold okS at h
 split at h
 ·rename_i k0 t0 m0 k1 t1 m1 k t m ks at0 y at1 at2 s hr
  simp only [Bool.and_eq_true,beq_iff_eq] at h
  obtain ⟨rfl,hc⟩:=h
  refine (pScript_any ⟨awS.toArray⟩ w (by decide) hg.tab hg.mx 1600024 100002 _ s (by omega) (by omega) hr).mono ?_
  intro e w' ht
  rw [TreeR,if_pos hc] at ht
  obtain ⟨a,n,S,rfl,⟨d,hk⟩,-,hb⟩:=ht
  have e1:∀ (k:Int) (t:List UInt8) (n:Nat) (ks:List Nd) (a:Int),(Nd.mk k t n ks a).kids = ks:=fun _ _ _ _ _=>rfl
  rw [e1] at hk
  obtain ⟨g,c,s1,rfl,-,h0,h1,h2,-,-,-,j3,-,hk1,-⟩:=hk.kid (i:=0) rfl
  rw [e1] at hk1
  obtain ⟨d,rfl⟩:∃ e,d = e + 1:=by
   cases d with
   | zero=>exact hk1.elim
   | succ d=>exact ⟨d,rfl⟩
  obtain ⟨a1,n1,rfl⟩:=hk1.slice
  obtain ⟨g1,c1,s2,rfl,-,h3,h4,h5,-,-,-,i3,-,hk2,-⟩:=hk1.kid (i:=0) rfl
  rw [e1] at hk2
  obtain ⟨d,rfl⟩:∃ e,d = e + 1:=by
   cases d with
   | zero=>exact hk2.elim
   | succ d=>exact ⟨d,rfl⟩
  obtain ⟨a2,n2,rfl⟩:=hk2.slice
  obtain ⟨g2,c2,s3,rfl,-,h6,h7,h8,l0,-⟩:=hk2.kid (i:=0) rfl
  exact ⟨g,g1,g2,n,0,n1,n2,rfl,by simpa using j3,by simpa using i3,by simpa [Nd.kind] using l0,h1,h2,h4,h5,h7,h8,hb⟩
 ·cases h
theorem aw_recipe (w:World) (hg:Gl w):Calls Tryz.prog 24 #[.string ⟨awR.toArray⟩] w fun e w'=>e = .returned (.tuple #[.agg #[.int .i64 0,.string ⟨#[]⟩,.float .f64 0,.slice none 0 0,.int .i64 0],.int .i64 14,.int .i64 1900]) ∧ Below w.heap.size w w':=by
 have h:=awR_ok
 unfold okR at h
 split at h
 ·rename_i x s hr
  simp only [Bool.and_eq_true,beq_iff_eq] at h
  refine (pRecipe_any ⟨awR.toArray⟩ w (by decide) hg.tab hg.mx 1600024 100002 100002 x s (by omega) (by omega) (by omega) hr).mono ?_
  intro e w' ht
  rw [TreeR,if_neg (by rw [h.1];decide),h.1,h.2] at ht
  exact ht
 ·cases h
set_option maxHeartbeats 1000000 in
theorem awake_any (w:World) (hg:Gl w):Calls Tryz.prog 28 #[] w fun e w'=>e = .returned (.bool true) ∧ Below w.heap.size w w':=by
 have H1:=Lib.hid (fun W (h:Below w.heap.size w W)=>aw_script W (hg.below h))
 have H2:=Lib.hid (fun W (h:Below w.heap.size w W)=>aw_recipe W (hg.below h))
 clear hg
 go_enter Tryz.func28,Tryz.ntmps28
 go_wp2_with fail
 refine (H1.out _ (Below.refl _ _)).mono ?_;rintro e w1 ⟨g,g1,g2,n,l1,n1,n2,rfl,k1,k2,k3,h1,h2,h3,h4,h5,h6,hb⟩
 have HB:=Lib.hid hb
 have hg1:=World.block_lt_of_cell? w1 ⟨g,3,none⟩ k1
 have hg2:=World.block_lt_of_cell? w1 ⟨g1,3,none⟩ k2
 have hg3:=World.block_lt_of_cell? w1 ⟨g2,0,none⟩ k3
 clear hb H1
 go_wp2_with fail
 have HB2:=Lib.hid (HB.out.alloc HB.out.size (.cells #[.int .i64 8,.string ⟨#[]⟩,.float .f64 0,.slice (some ⟨g,0,none⟩) 1 n,.int .i64 0] 61 (0,0)))
 have HN:Hid ((w1.alloc (.cells #[.int .i64 8,.string ⟨#[]⟩,.float .f64 0,.slice (some ⟨g,0,none⟩) 1 n,.int .i64 0] 61 (0,0))).heap[w1.heap.size]? = some _):=blk_new _ _
 refine (H2.out _ HB2.out).mono ?_;rintro e w2 ⟨rfl,hb⟩
 have hbb:=((Below.refl w1.heap.size w1).alloc (Nat.le_refl _) (.cells #[.int .i64 8,.string ⟨#[]⟩,.float .f64 0,.slice (some ⟨g,0,none⟩) 1 n,.int .i64 0] 61 (0,0))).trans (hb.mono (by simp))
 have j1:=(hbb.cell (p:=⟨g,3,none⟩) hg1).trans k1
 have j2:=(hbb.cell (p:=⟨g1,3,none⟩) hg2).trans k2
 have j3:=(hbb.cell (p:=⟨g2,0,none⟩) hg3).trans k3
 have hx:=blk_below HN.out hb
 have HB3:=Lib.hid (HB2.out.trans (hb.mono HB2.out.size))
 have p0:=blk_cell (hx) 0
 have p1:=blk_cell (hx) 1
 have p2:=blk_cell (hx) 2
 have p3:=blk_cell (hx) 3
 have p4:=blk_cell (hx) 4
 have pf0:=blk_free (hx) 0
 have pf1:=blk_free (hx) 1
 have pf2:=blk_free (hx) 2
 have pf3:=blk_free (hx) 3
 have pf4:=blk_free (hx) 4
 have pl:=blk_lt (hx)
 simp only [List.getElem?_toArray,List.getElem?_cons_zero,List.getElem?_cons_succ] at p0 p1 p2 p3 p4
 have hg1':=World.block_lt_of_cell? w2 ⟨g,3,none⟩ j1
 have hg2':=World.block_lt_of_cell? w2 ⟨g1,3,none⟩ j2
 have hg3':=World.block_lt_of_cell? w2 ⟨g2,0,none⟩ j3
 unfold maxLen at h2 h4 h6
 clear hb hbb k1 k2 k3 hg1 hg2 hg3 HB HB2 H2 hx HN
 go_wp2_with (go_at_call 14;refine (Num_any _ _).mono ?_;rintro e w' ⟨rfl,rfl⟩)
 all_goals
  first | go_ret | go_ret2
  exact ⟨rfl,HB3.out.alloc HB3.out.size _⟩
end Go.Proofs.YtmfpmandkhiknaaGreatDoor.qar
namespace Go.Proofs.YtmfpmandkhiknaaGreatDoor.par
open Go.RowKit
open heap
open lex (Tk TRow TkAt run_store_float add0)
set_option maxRecDepth 100000
attribute [local go_sem] run_store_float
structure SI (w:World) (x:Nd) (v1 v2:Value) (wr:World):Prop where
 b1:wr.heap[w.heap.size]? = some (ndO x v1)
 b2:wr.heap[w.heap.size + 1]? = some (ndO x v2)
 bel:Below w.heap.size w wr
theorem SI.drew {w wr:World} {x:Nd} {v1 v2:Value} (h:SI w x v1 v2 wr):SI w x v1 v2 wr.drew:=⟨h.b1,h.b2,h.bel.drew⟩
theorem SI.below {w wr w2:World} {x:Nd} {v1 v2:Value} (h:SI w x v1 v2 wr) (hb:Below wr.heap.size wr w2):SI w x v1 v2 w2:=⟨blk_below h.b1 hb,blk_below h.b2 hb,h.bel.trans (hb.mono h.bel.size)⟩
def SameAt (d:Nat):Prop:=∀ (x:Nd) (a1 a2:Option Addr) (n1 n2:Nat) (S1 S2:List Nat) (w:World),KV 61 w d x.kids (.slice a1 x.kids.length n1) S1 → KV 61 w d x.kids (.slice a2 x.kids.length n2) S2 → x.kids.length ≤ 9223372036854775807 →
 Calls Tryz.prog 26 #[ndV x (.slice a1 x.kids.length n1),ndV x (.slice a2 x.kids.length n2)] w fun e w'=>e = .returned (.bool true) ∧ Below w.heap.size w w'
theorem KV.len {T:TypeId} {w:World} {d:Nat} {xs:List Nd} {v:Value} {S:List Nat} (h:KV T w d xs v S):xs.length ≤ 9223372036854775807:=by
 cases d with
 | zero=>exact h.elim
 | succ d =>
  cases xs with
  | nil=>simp
  | cons y ys =>
   obtain ⟨a,c,rfl⟩:=h.slice
   obtain ⟨g1,c1,s1,-,-,-,h1,h2,-⟩:=h.kid (i:=0) (x:=y) rfl
   unfold maxLen at h2
   omega
set_option maxHeartbeats 4000000 in
theorem same_step {d:Nat} (IH:SameAt d):SameAt (d + 1):=by
 intro x a1 a2 n1 n2 S1 S2 w h1 h2 hlen
 have HK:=Lib.hid h1
 have HL:=Lib.hid h2
 clear h1 h2
 have hkd:(x.kind != x.kind) = false:=by simp
 have hat:(x.at' != x.at') = false:=by simp
 go_enter Tryz.func26,Tryz.ntmps26
 go_upto_region 1 with fail
 change Code.wp _ _ _ _ ((w.alloc (ndO x (.slice a1 x.kids.length n1))).alloc (ndO x (.slice a2 x.kids.length n2)))
 have HI:Hid (SI w x (.slice a1 x.kids.length n1) (.slice a2 x.kids.length n2) ((w.alloc (ndO x (.slice a1 x.kids.length n1))).alloc (ndO x (.slice a2 x.kids.length n2)))):=by
  have hr:=blk_new (w.alloc (ndO x (.slice a1 x.kids.length n1))) (ndO x (.slice a2 x.kids.length n2))
  rw [show (w.alloc (ndO x (.slice a1 x.kids.length n1))).heap.size = w.heap.size + 1 by simp] at hr
  exact ⟨blk_old (blk_new _ _) _,hr,((Below.refl _ _).alloc (Nat.le_refl _) _).alloc (by simp) _⟩
 generalize ((w.alloc (ndO x (.slice a1 x.kids.length n1))).alloc (ndO x (.slice a2 x.kids.length n2))) = w2 at *
 have p0:=blk_cell (HI.out.b1) 0
 have p1:=blk_cell (HI.out.b1) 1
 have p2:=blk_cell (HI.out.b1) 2
 have p3:=blk_cell (HI.out.b1) 3
 have p4:=blk_cell (HI.out.b1) 4
 have pf0:=blk_free (HI.out.b1) 0
 have pf1:=blk_free (HI.out.b1) 1
 have pf2:=blk_free (HI.out.b1) 2
 have pf3:=blk_free (HI.out.b1) 3
 have pf4:=blk_free (HI.out.b1) 4
 have pl:=blk_lt (HI.out.b1)
 simp only [List.getElem?_toArray,List.getElem?_cons_zero,List.getElem?_cons_succ] at p0 p1 p2 p3 p4
 have q0:=blk_cell (HI.out.b2) 0
 have q1:=blk_cell (HI.out.b2) 1
 have q2:=blk_cell (HI.out.b2) 2
 have q3:=blk_cell (HI.out.b2) 3
 have q4:=blk_cell (HI.out.b2) 4
 have qf0:=blk_free (HI.out.b2) 0
 have qf1:=blk_free (HI.out.b2) 1
 have qf2:=blk_free (HI.out.b2) 2
 have qf3:=blk_free (HI.out.b2) 3
 have qf4:=blk_free (HI.out.b2) 4
 have ql:=blk_lt (HI.out.b2)
 simp only [List.getElem?_toArray,List.getElem?_cons_zero,List.getElem?_cons_succ] at q0 q1 q2 q3 q4
 go_wp2_with fail
 (with_reducible refine (flt.same_one _ _).mono ?_);rintro e w' ⟨rfl,rfl⟩
 go_upto_region 3 with fail
 clear p0 p1 p2 p3 p4 pf0 pf1 pf2 pf3 pf4 pl
 clear q0 q1 q2 q3 q4 qf0 qf1 qf2 qf3 qf4 ql
 go_wp2_with fail
 go_loopg [5] x.kids.length (fun kk v5 wr=>∃ i:Nat,i + kk = x.kids.length ∧ v5 = .int .i64 i ∧ Hid (SI w x (.slice a1 x.kids.length n1) (.slice a2 x.kids.length n2) wr))
 case atStart=>exact ⟨0,by omega,rfl,HI.out⟩
 case round =>
  clear HI
  obtain ⟨i,hik,rfl,HJ⟩:=hrel
  have p0:=blk_cell (HJ.out.b1) 0
  have p1:=blk_cell (HJ.out.b1) 1
  have p2:=blk_cell (HJ.out.b1) 2
  have p3:=blk_cell (HJ.out.b1) 3
  have p4:=blk_cell (HJ.out.b1) 4
  have pf0:=blk_free (HJ.out.b1) 0
  have pf1:=blk_free (HJ.out.b1) 1
  have pf2:=blk_free (HJ.out.b1) 2
  have pf3:=blk_free (HJ.out.b1) 3
  have pf4:=blk_free (HJ.out.b1) 4
  have pl:=blk_lt (HJ.out.b1)
  simp only [List.getElem?_toArray,List.getElem?_cons_zero,List.getElem?_cons_succ] at p0 p1 p2 p3 p4
  have q0:=blk_cell (HJ.out.b2) 0
  have q1:=blk_cell (HJ.out.b2) 1
  have q2:=blk_cell (HJ.out.b2) 2
  have q3:=blk_cell (HJ.out.b2) 3
  have q4:=blk_cell (HJ.out.b2) 4
  have qf0:=blk_free (HJ.out.b2) 0
  have qf1:=blk_free (HJ.out.b2) 1
  have qf2:=blk_free (HJ.out.b2) 2
  have qf3:=blk_free (HJ.out.b2) 3
  have qf4:=blk_free (HJ.out.b2) 4
  have ql:=blk_lt (HJ.out.b2)
  simp only [List.getElem?_toArray,List.getElem?_cons_zero,List.getElem?_cons_succ] at q0 q1 q2 q3 q4
  by_cases hlt:i < x.kids.length
  ·cases gk with
   | zero=>omega
   | succ gk =>
   have hy:x.kids[i]? = some x.kids[i]:=List.getElem?_eq_getElem hlt
   generalize x.kids[i] = y at hy
   obtain ⟨g1,c1,s1,rfl,-,hg1,hcp1,hcp2,y0,y1,y2,y3,y4,hky,-⟩:=(HK.out.below HJ.out.bel).kid hy
   obtain ⟨b1,m1,rfl⟩:=hky.slice
   obtain ⟨g3,c3,s3,rfl,-,hg3,hcq1,hcq2,z0,z1,z2,z3,z4,hlz⟩:=(HL.out.below HJ.out.bel).kid hy
   obtain ⟨b3,m3,rfl⟩:=hlz.1.slice
   have HIH:=Lib.hid (IH y b1 b3 m1 m3 s1 s3 wr.drew (hky.below (Below.refl _ _).drew) (hlz.1.below (Below.refl _ _).drew) hky.len)
   clear hky hlz hy
   go_wp2_with fail
   go_still_tail 10,(by kernel_rfl)
   change wpList _ _ _ _ _ wr.drew
   go_wp2_with fail
   refine HIH.out.mono ?_;rintro e w5 ⟨rfl,hb⟩
   have HJ2:=Lib.hid (HJ.out.drew.below hb)
   clear hb HIH HJ
   go_wp2_with fail
   go_roundg gk
   case rel=>exact ⟨i + 1,by omega,by go_num,HJ2.out⟩
   case measure=>omega
  ·have hik2:i = x.kids.length:=by omega
   subst hik2
   go_wp2_with fail
   go_ret
   exact ⟨rfl,HJ.out.bel⟩
theorem same_all:∀ d,SameAt d
 | 0=>fun x a1 a2 n1 n2 S1 S2 w h=>h.elim
 | d + 1=>same_step (same_all d)
structure Spo (S:List Nat) (w w':World):Prop where
 turned:Turned S w w'
 rows:∀ b ∈ S,∀ cur,w.heap[b]? = some (.cells cur 61 (0,0)) → ∃ cur',w'.heap[b]? = some (.cells cur' 61 (0,0)) ∧ ∀ j:Nat,(j % 5 ≠ 0 → cur'[j]? = cur[j]?) ∧ ∀ m:Int,cur[j]? = some (.int .i64 m) → ∃ m':Int,cur'[j]? = some (.int .i64 m')
theorem Spo.refl (S:List Nat) (w:World):Spo S w w:=⟨Turned.refl _ _,fun b hb cur h=>⟨cur,h,fun j=>⟨fun _=>rfl,fun m hm=>⟨m,hm⟩⟩⟩⟩
theorem Spo.trans {S:List Nat} {w w1 w2:World} (h:Spo S w w1) (k:Spo S w1 w2):Spo S w w2:=by
 refine ⟨h.turned.trans k.turned,fun b hb cur hc => ?_⟩
 obtain ⟨c1,h1,h2⟩:=h.rows b hb cur hc
 obtain ⟨c2,k1,k2⟩:=k.rows b hb c1 h1
 refine ⟨c2,k1,fun j=>⟨fun hj=>((k2 j).1 hj).trans ((h2 j).1 hj),fun m hm => ?_⟩⟩
 obtain ⟨m1,e1⟩:=(h2 j).2 m hm
 exact (k2 j).2 m1 e1
theorem Spo.of_below {S:List Nat} {w w':World} (h:Below w.heap.size w w'):Spo S w w':=⟨Turned.of_below h,fun b hb cur hc=>⟨cur,blk_below hc h,fun j=>⟨fun _=>rfl,fun m hm=>⟨m,hm⟩⟩⟩⟩
theorem Spo.drew {S:List Nat} {w w':World} (h:Spo S w w'):Spo S w w'.drew:=h.trans (Spo.of_below (Below.refl _ _).drew)
theorem Spo.set {S:List Nat} {w:World} {g i:Nat} {cur:Array Value} (hg:g ∈ S) (h:w.heap[g]? = some (.cells cur 61 (0,0))) {k:Int} (hk:cur[i * 5]? = some (.int .i64 k)) (m:Int):Spo S w (w.setCell ⟨g,i * 5,none⟩ (.int .i64 m)):=by
 refine ⟨(Turned.refl _ _).setCell (by simpa using hg) _,fun b hb c hc => ?_⟩
 by_cases e:b = g
 ·subst e
  rw [h] at hc
  simp only [Option.some.injEq,Obj.cells.injEq,and_true] at hc
  subst hc
  refine ⟨_,blk_set h (i * 5) _,fun j=>⟨fun hj => ?_,fun m2 hm => ?_⟩⟩
  ·rw [Array.getElem?_setIfInBounds_ne (by omega)]
  ·by_cases ej:i * 5 = j
   ·subst ej
    have hlt:i * 5 < cur.size:=(Array.getElem?_eq_some_iff.1 hm).1
    exact ⟨m,by rw [Array.getElem?_setIfInBounds_self_of_lt hlt]⟩
   ·exact ⟨m2,by rw [Array.getElem?_setIfInBounds_ne ej];exact hm⟩
 ·exact ⟨c,by rw [blk_other e];exact hc,fun j=>⟨fun _=>rfl,fun m hm=>⟨m,hm⟩⟩⟩
def Shp (w:World) (S:List Nat):Nat → Nat → Value → Prop
 | 0,_,_=>False
 | d + 1,n,v=>∃ (a:Option Addr) (cp:Nat),v = .slice a n cp ∧ ∀ i,i < n → ∃ (g:Nat) (cur:Array Value) (k:Int) (t:ByteArray) (f:Nat) (nk:Nat) (c:Value) (at':Int),
   a = some ⟨g,0,none⟩ ∧ g ∈ S ∧ n ≤ cp ∧ cp ≤ maxLen ∧ w.heap[g]? = some (.cells cur 61 (0,0)) ∧ cur[i * 5]? = some (.int .i64 k) ∧ cur[i * 5 + 1]? = some (.string t) ∧ cur[i * 5 + 2]? = some (.float .f64 f) ∧ cur[i * 5 + 3]? = some c ∧ cur[i * 5 + 4]? = some (.int .i64 at') ∧ Shp w S d nk c
theorem Shp.spo {S:List Nat} {w w':World} (hs:Spo S w w'):∀ (d n:Nat) (v:Value),Shp w S d n v → Shp w' S d n v
 | 0,_,_,h=>h.elim
 | d + 1,n,v,h=>by
  obtain ⟨a,cp,hv,hi⟩:=h
  refine ⟨a,cp,hv,fun i hn => ?_⟩
  obtain ⟨g,cur,k,t,f,nk,c,at',ha,hg,h1,h2,hb,c0,c1,c2,c3,c4,hk⟩:=hi i hn
  obtain ⟨cur',hb',hc⟩:=hs.rows g hg cur hb
  obtain ⟨k',hk'⟩:=(hc (i * 5)).2 k c0
  exact ⟨g,cur',k',t,f,nk,c,at',ha,hg,h1,h2,hb',hk',by rw [(hc _).1 (by omega)];exact c1,by rw [(hc _).1 (by omega)];exact c2,by rw [(hc _).1 (by omega)];exact c3,by rw [(hc _).1 (by omega)];exact c4,Shp.spo hs d nk c hk⟩
theorem KV.shp {w:World} {S2:List Nat}:∀ (d:Nat) {xs:List Nd} {v:Value} {S:List Nat},KV 61 w d xs v S → (∀ b ∈ S,b ∈ S2) → Shp w S2 d xs.length v
 | 0,_,_,_,h,_=>h.elim
 | d + 1,xs,v,S,h,hS=>by
  obtain ⟨a,cp,rfl⟩:=h.slice
  refine ⟨a,cp,rfl,fun i hi => ?_⟩
  have hx:xs[i]? = some xs[i]:=List.getElem?_eq_getElem hi
  obtain ⟨g,c,s,rfl,-,hg,h1,h2,k0,k1,k2,k3,k4,hk,hs⟩:=h.kid hx
  obtain ⟨cs,Ss,-,-,h3,rfl,-,-⟩:=h
  have hgS:g ∈ S2:=hS g (List.mem_append_left _ (by simp [Value.ownBlock]))
  obtain ⟨_,⟨hv,h0⟩ | ⟨g',c',cur,hv,_,hb,_,_,_⟩⟩:=h3
  ·omega
  ·simp only [Value.slice.injEq,Option.some.injEq,Addr.mk.injEq,and_true,true_and] at hv
   obtain ⟨rfl,-⟩:=hv
   rw [blk_cell hb] at k0 k1 k2 k3 k4
   exact ⟨g,cur,_,_,_,_,c,_,rfl,hgS,h1,h2,hb,k0,k1,k2,k3,k4,hk.shp d (fun b hb=>hS b (hs b hb))⟩
def SpoilAt (d:Nat):Prop:=∀ (k:Int) (t:ByteArray) (f:Nat) (v:Value) (a:Int) (n:Nat) (S:List Nat) (w:World),Shp w S d n v → (∀ b ∈ S,b < w.heap.size) →
 Calls Tryz.prog 27 #[.agg #[.int .i64 k,.string t,.float .f64 f,v,.int .i64 a]] w fun e w'=>e = .returned (.tuple #[]) ∧ Spo S w w'
set_option maxHeartbeats 4000000 in
theorem spoil_step {d:Nat} (IH:SpoilAt d):SpoilAt (d + 1):=by
 intro k t f v a n S w hs hS
 obtain ⟨ad,cp,rfl,-⟩:=id hs
 have HK:=Lib.hid hs
 have HSZ:=Lib.hid hS
 have hnb:w.heap.size ∉ S:=fun h=>Nat.lt_irrefl _ (hS _ h)
 have HNB:=Lib.hid hnb
 clear hs hS hnb
 go_enter Tryz.func27,Tryz.ntmps27
 go_upto_region 1 with fail
 have HB0:Hid ((w.alloc (.cells #[.int .i64 k,.string t,.float .f64 f,.slice ad n cp,.int .i64 a] 61 (0,0))).heap[w.heap.size]? = some (.cells #[.int .i64 k,.string t,.float .f64 f,.slice ad n cp,.int .i64 a] 61 (0,0))):=blk_new _ _
 have HI:Hid (Spo S w (w.alloc (.cells #[.int .i64 k,.string t,.float .f64 f,.slice ad n cp,.int .i64 a] 61 (0,0)))):=Spo.of_below ((Below.refl _ _).alloc (Nat.le_refl _) _)
 change Code.wp _ _ _ _ (w.alloc (.cells #[.int .i64 k,.string t,.float .f64 f,.slice ad n cp,.int .i64 a] 61 (0,0)))
 generalize (w.alloc (.cells #[.int .i64 k,.string t,.float .f64 f,.slice ad n cp,.int .i64 a] 61 (0,0))) = w1 at *
 go_upto_region 2 with fail
 go_loopg [2] n (fun kk v2 wr=>∃ i:Nat,i + kk = n ∧ v2 = .int .i64 i ∧ Hid (Spo S w wr ∧ wr.heap[w.heap.size]? = some (.cells #[.int .i64 k,.string t,.float .f64 f,.slice ad n cp,.int .i64 a] 61 (0,0))))
 case atStart=>exact ⟨0,by omega,rfl,HI.out,HB0.out⟩
 case round =>
  clear HI HB0
  obtain ⟨i,hik,rfl,HJ⟩:=hrel
  have p0:=blk_cell (HJ.out.2) 0
  have p1:=blk_cell (HJ.out.2) 1
  have p2:=blk_cell (HJ.out.2) 2
  have p3:=blk_cell (HJ.out.2) 3
  have p4:=blk_cell (HJ.out.2) 4
  have pf0:=blk_free (HJ.out.2) 0
  have pf1:=blk_free (HJ.out.2) 1
  have pf2:=blk_free (HJ.out.2) 2
  have pf3:=blk_free (HJ.out.2) 3
  have pf4:=blk_free (HJ.out.2) 4
  have pl:=blk_lt (HJ.out.2)
  simp only [List.getElem?_toArray,List.getElem?_cons_zero,List.getElem?_cons_succ] at p0 p1 p2 p3 p4
  by_cases hlt:i < n
  ·cases gk with
   | zero=>omega
   | succ gk =>
   obtain ⟨ad',cp',hv,hi⟩:=Shp.spo HJ.out.1 _ _ _ HK.out
   cases hv
   obtain ⟨g,cur,k1,t1,f1,nk,c,at',rfl,hg,h1,h2,hb,c0,c1,c2,c3,c4,hk⟩:=hi i hlt
   unfold maxLen at h2
   have HG:=Lib.hid hg
   have HIH:=Lib.hid (IH k1 t1 f1 c at' nk S wr hk (fun b hb=>Nat.lt_of_lt_of_le (HSZ.out b hb) HJ.out.1.turned.size))
   have hgl:=blk_lt hb
   have HB:=Lib.hid hb
   rw [← blk_cell hb] at c0 c1 c2 c3 c4
   clear hi hk hg hb
   have HC0:Hid (cur[i * 5]? = some (.int .i64 k1)):=by rw [← blk_cell HB.out];exact c0
   go_wp2_with fail
   refine HIH.out.mono ?_;rintro e w5 ⟨rfl,hsp⟩
   go_upto_region 5 with fail
   clear c0 c1 c2 c3 c4 hgl p0 p1 p2 p3 p4 pf0 pf1 pf2 pf3 pf4 pl
   obtain ⟨cur',hb',hc⟩:=hsp.rows g HG.out cur HB.out
   obtain ⟨k2,hk2⟩:=(hc (i * 5)).2 k1 HC0.out
   have hx:=hsp.turned.kept HJ.out.2 HNB.out
   have HX:=Lib.hid hx
   have HS5:Hid (Spo S w (w5.drew)):=(HJ.out.1.trans hsp).drew
   have HB5:=Lib.hid hb'
   have HK2:=Lib.hid hk2
   have c0:w5.cell? ⟨g,i * 5,none⟩ = some (.int .i64 k2):=by rw [blk_cell hb'];exact hk2
   have cf:=blk_free hb' (i * 5)
   have cl:=blk_lt hb'
   have p0:=blk_cell (hx) 0
   have p1:=blk_cell (hx) 1
   have p2:=blk_cell (hx) 2
   have p3:=blk_cell (hx) 3
   have p4:=blk_cell (hx) 4
   have pf0:=blk_free (hx) 0
   have pf1:=blk_free (hx) 1
   have pf2:=blk_free (hx) 2
   have pf3:=blk_free (hx) 3
   have pf4:=blk_free (hx) 4
   have pl:=blk_lt (hx)
   simp only [List.getElem?_toArray,List.getElem?_cons_zero,List.getElem?_cons_succ] at p0 p1 p2 p3 p4
   clear hx hb' hk2 hc hsp HIH HB HC0 HJ
   have HALL:Hid (∀ m:Int,Spo S w (w5.drew.setCell ⟨g,i * 5,none⟩ (.int .i64 m)) ∧ (w5.drew.setCell ⟨g,i * 5,none⟩ (.int .i64 m)).heap[w.heap.size]? = some (.cells #[.int .i64 k,.string t,.float .f64 f,.slice (some ⟨g,0,none⟩) n cp,.int .i64 a] 61 (0,0))):=fun m=>by
    refine ⟨HS5.out.trans (Spo.set HG.out (w:=w5.drew) HB5.out HK2.out m),?_⟩
    rw [blk_other (fun e=>HNB.out (by rw [e];exact HG.out))]
    exact HX.out
   clear HS5 HB5 HK2 HX
   go_region
   all_goals
    clear c0 cf cl
    go_wp2_with fail
    go_roundg gk
    case rel=>exact ⟨i + 1,by omega,by go_num,HALL.out _⟩
    case measure=>omega
  ·have hik2:i = n:=by omega
   subst hik2
   go_wp2_with fail
   go_end0
   exact ⟨rfl,HJ.out.1⟩
theorem spoil_all:∀ d,SpoilAt d
 | 0=>fun k t f v a n S w h=>h.elim
 | d + 1=>spoil_step (spoil_all d)
end Go.Proofs.YtmfpmandkhiknaaGreatDoor.par
namespace Go.Proofs.YtmfpmandkhiknaaGreatDoor.qar
open par
open Go.RowKit
open heap
open lex (Tk TRow TkAt run_store_float add0 scanL Tokens_any tab_below)
open many (envOf st0 recipeR)
open num (list_len)
set_option maxRecDepth 100000
attribute [local go_sem] run_store_float field_tok0 field_tok1 field_tok3
def resN (x:Nd) (s9:PS):Nd:=if s9.code = 0 then x else zero
def resP (s9:PS):Int:=if s9.code = 0 then 0 else s9.bad
structure AnsT (x:Nd) (b:Nat) (v:Value) (S:List Nat) (w:World):Prop where
 ok:(Tr.mk x.kids v S).ok w
 own:∀ k ∈ S,b ≤ k
theorem TreeR.ans {x:Nd} {s9:PS} {w:World} {e:Ending} {w':World} (h:TreeR x s9 w e w'):∃ (a:Option Addr) (n:Nat) (S:List Nat),e = .returned (.tuple #[ndV (resN x s9) (.slice a (resN x s9).kids.length n),.int .i64 (resP s9),.int .i64 s9.code]) ∧ AnsT (resN x s9) w.heap.size (.slice a (resN x s9).kids.length n) S w' ∧ Below w.heap.size w w':=by
 rw [TreeR] at h
 unfold resN resP
 by_cases hc:s9.code = 0
 ·rw [if_pos hc] at h
  obtain ⟨a,n,S,rfl,hk,hS,hb⟩:=h
  rw [if_pos hc,if_pos hc,hc]
  exact ⟨a,n,S,rfl,⟨hk,hS⟩,hb⟩
 ·rw [if_neg hc] at h
  obtain ⟨rfl,hb⟩:=h
  rw [if_neg hc,if_neg hc]
  exact ⟨none,0,[],rfl,⟨Tr.nil _,by simp⟩,hb⟩
theorem AnsT.below {x:Nd} {b:Nat} {v:Value} {S:List Nat} {w w':World} (h:AnsT x b v S w) (hb:Below w.heap.size w w'):AnsT x b v S w':=⟨h.ok.turned (R := []) (Turned.of_below hb) (by simp),h.own⟩
theorem AnsT.turned {x:Nd} {b:Nat} {v:Value} {S R:List Nat} {w w':World} (h:AnsT x b v S w) (ht:Turned R w w') (hd:∀ k ∈ S,k ∉ R):AnsT x b v S w':=⟨h.ok.turned ht hd,h.own⟩
theorem AnsT.lt {x:Nd} {b:Nat} {v:Value} {S:List Nat} {w:World} (h:AnsT x b v S w):∀ k ∈ S,k < w.heap.size:=h.ok.lt
theorem same_any (x:Nd) (b1 b2:Nat) (a1 a2:Option Addr) (n1 n2:Nat) (S1 S2:List Nat) (w:World) (h1:AnsT x b1 (.slice a1 x.kids.length n1) S1 w) (h2:AnsT x b2 (.slice a2 x.kids.length n2) S2 w) :
  Calls Tryz.prog 26 #[ndV x (.slice a1 x.kids.length n1),ndV x (.slice a2 x.kids.length n2)] w fun e w'=>e = .returned (.bool true) ∧ Below w.heap.size w w':=by
 obtain ⟨d1,h1⟩:=h1.ok
 obtain ⟨d2,h2⟩:=h2.ok
 exact same_all (max d1 d2 + 1) x a1 a2 n1 n2 S1 S2 w (h1.upto (by omega)) (h2.upto (by omega)) h1.len
theorem spoil_any (x:Nd) (b1:Nat) (a1:Option Addr) (n1:Nat) (S1:List Nat) (w:World) (h1:AnsT x b1 (.slice a1 x.kids.length n1) S1 w) :
  Calls Tryz.prog 27 #[ndV x (.slice a1 x.kids.length n1)] w fun e w'=>e = .returned (.tuple #[]) ∧ Turned S1 w w':=by
 obtain ⟨d1,hk⟩:=h1.ok
 refine (spoil_all (d1 + 1) x.kind ⟨x.text.toArray⟩ x.num (.slice a1 x.kids.length n1) x.at' x.kids.length S1 w (hk.shp (d1 + 1) (fun b hb=>hb)) h1.lt).mono ?_
 rintro e w' ⟨rfl,h⟩
 exact ⟨rfl,h.turned⟩
theorem recipe_both (l:List UInt8):∃ x s9,recipeR (envOf l) 1600024 100002 100002 st0 = some (x,s9):=by
 have h0:=ms_start l
 have h1:=ms_sT (envOf l) st0
 rw [recipeR,stageR_sT]
 obtain ⟨x1,s3,h2,h3,-⟩:=stage_ends (envOf l) 1600024 100002 st0 (by omega) (by omega) rfl
 rw [h2]
 simp only
 obtain ⟨ks,s4,h4,-⟩:=stages_ends (envOf l) 1600024 100002 100002 [x1] s3 (by omega) (by omega) (by omega)
 rw [h4]
 exact ⟨_,_,rfl⟩
structure Ans3 (w:World) (y:Nd) (p1 p2 p3:Nat) (v1 v2 v3:Value) (S1 S2 S3:List Nat) (W:World):Prop where
 c1:W.heap[p1]? = some (ndO y v1)
 c2:W.heap[p2]? = some (ndO y v2)
 c3:W.heap[p3]? = some (ndO y v3)
 k1:AnsT y w.heap.size v1 S1 W
 k2:AnsT y (p1 + 1) v2 S2 W
 k3:AnsT y (p2 + 1) v3 S3 W
 bel:Below w.heap.size w W
 o1:w.heap.size ≤ p1
 l1:∀ k ∈ S1,k < p1
 o2:p1 < p2
 o3:p2 < p3
theorem Ans3.below {w:World} {y:Nd} {p1 p2 p3:Nat} {v1 v2 v3:Value} {S1 S2 S3:List Nat} {W W':World} (h:Ans3 w y p1 p2 p3 v1 v2 v3 S1 S2 S3 W) (hb:Below W.heap.size W W'):Ans3 w y p1 p2 p3 v1 v2 v3 S1 S2 S3 W':=
 ⟨blk_below h.c1 hb,blk_below h.c2 hb,blk_below h.c3 hb,h.k1.below hb,h.k2.below hb,h.k3.below hb,h.bel.trans (hb.mono h.bel.size),h.o1,h.l1,h.o2,h.o3⟩
structure Ans2 (w:World) (y:Nd) (p1 p2 p3:Nat) (v2 v3:Value) (S2 S3:List Nat) (W:World):Prop where
 c2:W.heap[p2]? = some (ndO y v2)
 c3:W.heap[p3]? = some (ndO y v3)
 k2:AnsT y (p1 + 1) v2 S2 W
 k3:AnsT y (p2 + 1) v3 S3 W
 bel:Below w.heap.size w W
theorem Ans3.spoil {w:World} {y:Nd} {p1 p2 p3:Nat} {v1 v2 v3:Value} {S1 S2 S3:List Nat} {W W':World} (h:Ans3 w y p1 p2 p3 v1 v2 v3 S1 S2 S3 W) (ht:Turned S1 W W'):Ans2 w y p1 p2 p3 v2 v3 S2 S3 W':=by
 have o2:=h.o2
 have o3:=h.o3
 refine ⟨ht.kept h.c2 (fun hm=>by have:=h.l1 _ hm;omega),ht.kept h.c3 (fun hm=>by have:=h.l1 _ hm;omega),h.k2.turned ht (fun k hk hm => ?_),h.k3.turned ht (fun k hk hm => ?_),h.bel.trans (ht.below h.bel.size (fun k hk=>h.k1.own k hk))⟩
 ·have:=h.l1 _ hm
  have:=h.k2.own k hk
  omega
 ·have:=h.l1 _ hm
  have:=h.k3.own k hk
  omega
set_option maxHeartbeats 4000000 in
theorem parseRecipes_any (s:ByteArray) (w:World) (hs:s.size ≤ maxLen) (hg:Gl w):Calls Tryz.prog 8 #[.string s] w fun e w'=>e = .returned (.bool true) ∧ Below w.heap.size w w':=by
 obtain ⟨x,s9,hr⟩:=recipe_both s.data.toList
 have HP:=Lib.hid (fun W (h:Below w.heap.size w W)=>(pRecipe_any s W hs (hg.below h).tab (hg.below h).mx 1600024 100002 100002 x s9 (by omega) (by omega) (by omega) hr).mono (fun e w' h=>TreeR.ans h))
 have HD:=Lib.hid (fun W=>(par.Recipe_any s W hs 1600024 100002 100002 x s9 (by omega) (by omega) hr).mono (fun e w' h=>TreeR.ans h))
 have HAW:=Lib.hid (fun W (h:Below w.heap.size w W)=>awake_any W (hg.below h))
 clear hr hs hg
 generalize resN x s9 = y at *
 generalize resP s9 = rp at *
 generalize s9.code = rc at *
 have hpp:(rp != rp) = false:=by simp
 have hcc:(rc != rc) = false:=by simp
 go_enter Tryz.func8,Tryz.ntmps8
 go_wp2_with fail
 refine (HP.out _ (Below.refl _ _)).mono ?_;rintro e w1 ⟨a1,n1,S1,rfl,hk1,hb1⟩
 have HK1:=Lib.hid hk1
 have HB1:=Lib.hid hb1
 clear hk1 hb1
 go_upto_region 2 with fail
 have HC1:Hid ((w1.alloc (ndO y (.slice a1 y.kids.length n1))).heap[w1.heap.size]? = some (ndO y (.slice a1 y.kids.length n1)) ∧ AnsT y w.heap.size (.slice a1 y.kids.length n1) S1 (w1.alloc (ndO y (.slice a1 y.kids.length n1))) ∧ Below w.heap.size w (w1.alloc (ndO y (.slice a1 y.kids.length n1))) ∧ w.heap.size ≤ w1.heap.size ∧ ∀ k ∈ S1,k < w1.heap.size):=
  ⟨blk_new _ _,HK1.out.below ((Below.refl _ _).alloc (Nat.le_refl _) _),HB1.out.alloc HB1.out.size _,HB1.out.size,HK1.out.lt⟩
 clear HK1 HB1
 change Code.wp _ _ _ _ (w1.alloc (ndO y (.slice a1 y.kids.length n1)))
 generalize w1.alloc (ndO y (.slice a1 y.kids.length n1)) = w2 at *
 generalize w1.heap.size = p1 at *
 go_wp2_with fail
 refine (HP.out _ HC1.out.2.2.1).mono ?_;rintro e w3 ⟨a2,n2,S2,rfl,hk2,hb2⟩
 have HC2:Hid ((w3.alloc (ndO y (.slice a2 y.kids.length n2))).heap[p1]? = some (ndO y (.slice a1 y.kids.length n1)) ∧ (w3.alloc (ndO y (.slice a2 y.kids.length n2))).heap[w3.heap.size]? = some (ndO y (.slice a2 y.kids.length n2)) ∧
   AnsT y w.heap.size (.slice a1 y.kids.length n1) S1 (w3.alloc (ndO y (.slice a2 y.kids.length n2))) ∧ AnsT y (p1 + 1) (.slice a2 y.kids.length n2) S2 (w3.alloc (ndO y (.slice a2 y.kids.length n2))) ∧ Below w.heap.size w (w3.alloc (ndO y (.slice a2 y.kids.length n2))) ∧ w.heap.size ≤ p1 ∧ (∀ k ∈ S1,k < p1) ∧ p1 < w3.heap.size ∧ ∀ k ∈ S2,k < w3.heap.size):=by
  have hbb:=hb2.alloc hb2.size (ndO y (.slice a2 y.kids.length n2))
  have hp:=blk_lt HC1.out.1
  have hz:=hb2.size
  exact ⟨blk_below HC1.out.1 hbb,blk_new _ _,HC1.out.2.1.below hbb,⟨(hk2.below ((Below.refl _ _).alloc (Nat.le_refl _) _)).ok,fun k hk=>Nat.le_trans hp (hk2.own k hk)⟩,HC1.out.2.2.1.trans (hbb.mono HC1.out.2.2.1.size),HC1.out.2.2.2.1,HC1.out.2.2.2.2,by omega,hk2.lt⟩
 clear hk2 hb2 HP HC1
 go_upto_region 3 with fail
 change Code.wp _ _ _ _ (w3.alloc (ndO y (.slice a2 y.kids.length n2)))
 generalize w3.alloc (ndO y (.slice a2 y.kids.length n2)) = w4 at *
 generalize w3.heap.size = p2 at *
 go_wp2_with fail
 refine (HD.out _).mono ?_;rintro e w5 ⟨a3,n3,S3,rfl,hk3,hb3⟩
 have HC3:Hid ((w5.alloc (ndO y (.slice a3 y.kids.length n3))).heap[p1]? = some (ndO y (.slice a1 y.kids.length n1)) ∧ (w5.alloc (ndO y (.slice a3 y.kids.length n3))).heap[p2]? = some (ndO y (.slice a2 y.kids.length n2)) ∧ (w5.alloc (ndO y (.slice a3 y.kids.length n3))).heap[w5.heap.size]? = some (ndO y (.slice a3 y.kids.length n3)) ∧
   AnsT y w.heap.size (.slice a1 y.kids.length n1) S1 (w5.alloc (ndO y (.slice a3 y.kids.length n3))) ∧ AnsT y (p1 + 1) (.slice a2 y.kids.length n2) S2 (w5.alloc (ndO y (.slice a3 y.kids.length n3))) ∧ AnsT y (p2 + 1) (.slice a3 y.kids.length n3) S3 (w5.alloc (ndO y (.slice a3 y.kids.length n3))) ∧
   Below w.heap.size w (w5.alloc (ndO y (.slice a3 y.kids.length n3))) ∧ w.heap.size ≤ p1 ∧ (∀ k ∈ S1,k < p1) ∧ p1 < p2 ∧ (∀ k ∈ S2,k < p2) ∧ p2 < w5.heap.size):=by
  have hbb:=hb3.alloc hb3.size (ndO y (.slice a3 y.kids.length n3))
  have hp:=blk_lt HC2.out.2.1
  have hz:=hb3.size
  obtain ⟨c1,c2,c3,c4,c5,c6,c7,c8,c9⟩:=HC2.out
  exact ⟨blk_below c1 hbb,blk_below c2 hbb,blk_new _ _,c3.below hbb,c4.below hbb,⟨(hk3.below ((Below.refl _ _).alloc (Nat.le_refl _) _)).ok,fun k hk=>Nat.le_trans hp (hk3.own k hk)⟩,c5.trans (hbb.mono c5.size),c6,c7,c8,c9,by omega⟩
 clear hk3 hb3 HD HC2
 go_upto_region 4 with fail
 change Code.wp _ _ _ _ (w5.alloc (ndO y (.slice a3 y.kids.length n3)))
 generalize w5.alloc (ndO y (.slice a3 y.kids.length n3)) = w6 at *
 generalize w5.heap.size = p3 at *
 have HD3:Hid (Ans3 w y p1 p2 p3 (.slice a1 y.kids.length n1) (.slice a2 y.kids.length n2) (.slice a3 y.kids.length n3) S1 S2 S3 w6):=by
  obtain ⟨c1,c2,c3,c4,c5,c6,c7,c8,c9,d1,d2,d3⟩:=HC3.out
  exact ⟨c1,c2,c3,c4,c5,c6,c7,c8,c9,d1,d3⟩
 clear HC3
 have f0:=blk_cell (HD3.out.c1) 0
 have f1:=blk_cell (HD3.out.c1) 1
 have f2:=blk_cell (HD3.out.c1) 2
 have f3:=blk_cell (HD3.out.c1) 3
 have f4:=blk_cell (HD3.out.c1) 4
 have ff0:=blk_free (HD3.out.c1) 0
 have ff1:=blk_free (HD3.out.c1) 1
 have ff2:=blk_free (HD3.out.c1) 2
 have ff3:=blk_free (HD3.out.c1) 3
 have ff4:=blk_free (HD3.out.c1) 4
 have fl:=blk_lt (HD3.out.c1)
 simp only [List.getElem?_toArray,List.getElem?_cons_zero,List.getElem?_cons_succ] at f0 f1 f2 f3 f4
 have h0:=blk_cell (HD3.out.c3) 0
 have h1:=blk_cell (HD3.out.c3) 1
 have h2:=blk_cell (HD3.out.c3) 2
 have h3:=blk_cell (HD3.out.c3) 3
 have h4:=blk_cell (HD3.out.c3) 4
 have hf0:=blk_free (HD3.out.c3) 0
 have hf1:=blk_free (HD3.out.c3) 1
 have hf2:=blk_free (HD3.out.c3) 2
 have hf3:=blk_free (HD3.out.c3) 3
 have hf4:=blk_free (HD3.out.c3) 4
 have hl:=blk_lt (HD3.out.c3)
 simp only [List.getElem?_toArray,List.getElem?_cons_zero,List.getElem?_cons_succ] at h0 h1 h2 h3 h4
 have HS:=Lib.hid (same_any y _ _ a1 a3 n1 n3 S1 S3 w6 HD3.out.k1 HD3.out.k3)
 go_wp2_with fail
 refine HS.out.mono ?_;rintro e w7 ⟨rfl,hb7⟩
 have HD4:=Lib.hid (HD3.out.below hb7)
 clear hb7 HD3 HS
 clear f0 f1 f2 f3 f4 ff0 ff1 ff2 ff3 ff4 fl
 clear h0 h1 h2 h3 h4 hf0 hf1 hf2 hf3 hf4 hl
 go_upto_region 6 with (go_at_call 14;refine (Num_any _ _).mono ?_;rintro e w' ⟨rfl,rfl⟩)
 have f0:=blk_cell (HD4.out.c1) 0
 have f1:=blk_cell (HD4.out.c1) 1
 have f2:=blk_cell (HD4.out.c1) 2
 have f3:=blk_cell (HD4.out.c1) 3
 have f4:=blk_cell (HD4.out.c1) 4
 have ff0:=blk_free (HD4.out.c1) 0
 have ff1:=blk_free (HD4.out.c1) 1
 have ff2:=blk_free (HD4.out.c1) 2
 have ff3:=blk_free (HD4.out.c1) 3
 have ff4:=blk_free (HD4.out.c1) 4
 have fl:=blk_lt (HD4.out.c1)
 simp only [List.getElem?_toArray,List.getElem?_cons_zero,List.getElem?_cons_succ] at f0 f1 f2 f3 f4
 have HS:=Lib.hid (spoil_any y _ a1 n1 S1 w7 HD4.out.k1)
 go_wp2_with fail
 refine HS.out.mono ?_;rintro e w8 ⟨rfl,ht8⟩
 have HD5:=Lib.hid (HD4.out.spoil ht8)
 clear ht8 HD4 HS
 clear f0 f1 f2 f3 f4 ff0 ff1 ff2 ff3 ff4 fl
 go_upto_region 7 with fail
 have f0:=blk_cell (HD5.out.c2) 0
 have f1:=blk_cell (HD5.out.c2) 1
 have f2:=blk_cell (HD5.out.c2) 2
 have f3:=blk_cell (HD5.out.c2) 3
 have f4:=blk_cell (HD5.out.c2) 4
 have ff0:=blk_free (HD5.out.c2) 0
 have ff1:=blk_free (HD5.out.c2) 1
 have ff2:=blk_free (HD5.out.c2) 2
 have ff3:=blk_free (HD5.out.c2) 3
 have ff4:=blk_free (HD5.out.c2) 4
 have fl:=blk_lt (HD5.out.c2)
 simp only [List.getElem?_toArray,List.getElem?_cons_zero,List.getElem?_cons_succ] at f0 f1 f2 f3 f4
 have h0:=blk_cell (HD5.out.c3) 0
 have h1:=blk_cell (HD5.out.c3) 1
 have h2:=blk_cell (HD5.out.c3) 2
 have h3:=blk_cell (HD5.out.c3) 3
 have h4:=blk_cell (HD5.out.c3) 4
 have hf0:=blk_free (HD5.out.c3) 0
 have hf1:=blk_free (HD5.out.c3) 1
 have hf2:=blk_free (HD5.out.c3) 2
 have hf3:=blk_free (HD5.out.c3) 3
 have hf4:=blk_free (HD5.out.c3) 4
 have hl:=blk_lt (HD5.out.c3)
 simp only [List.getElem?_toArray,List.getElem?_cons_zero,List.getElem?_cons_succ] at h0 h1 h2 h3 h4
 have HS:=Lib.hid (same_any y _ _ a2 a3 n2 n3 S2 S3 w8 HD5.out.k2 HD5.out.k3)
 go_wp2_with fail
 refine HS.out.mono ?_;rintro e w9 ⟨rfl,hb9⟩
 have HB9:=Lib.hid (HD5.out.bel.trans (hb9.mono HD5.out.bel.size))
 clear hb9 HD5 HS
 clear f0 f1 f2 f3 f4 ff0 ff1 ff2 ff3 ff4 fl
 clear h0 h1 h2 h3 h4 hf0 hf1 hf2 hf3 hf4 hl
 go_wp2_with fail
 refine (HAW.out _ HB9.out).mono ?_;rintro e w10 ⟨rfl,hb⟩
 have HB10:=Lib.hid (HB9.out.trans (hb.mono HB9.out.size))
 clear hb
 go_wp2_with fail
 go_ret
 exact ⟨rfl,HB10.out⟩
end Go.Proofs.YtmfpmandkhiknaaGreatDoor.qar
