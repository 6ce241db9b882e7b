/-
  Proved: that awake of the parser's laws says true. Conditions: as each theorem says.
  Proved: SameTree tells that two trees of one shape are the same. Conditions: as each theorem says.
  Proved: SpoilTree writes over a tree's kinds and leaves the rest of the memory. Conditions: as each theorem says.
  Proved: that ParseRecipes says true, of every text. Conditions: as each theorem says.
  Proved: what Script returns of ParseNests' texts. Conditions: as each theorem says.
  Proved: that ParseNests says true. Conditions: as each theorem says.
-/
import Derived.Test.YtmfpmandkhiknaaGreatDoorPu32
import Derived.Test.YtmfpmandkhiknaaGreatDoorPu12
import Derived.Test.YtmfpmandkhiknaaGreatDoorPu24
import Derived.StillTailTactics
import Derived.BigQuiet
set_option linter.unusedVariables false
set_option linter.unusedSimpArgs false
namespace Go.Proofs.YtmfpmandkhiknaaGreatDoor.qar
open par
open Go.RowKit
open heap
open lex (Tk TRow TkAt run_store_float add0 scanL Tokens_any tab_below)
open many (envOf st0 recipeR)
open num (list_len)
set_option maxRecDepth 1000000
attribute [local go_sem] run_store_float field_tok0 field_tok1 field_tok3
theorem Num_any (e:Int) (w:World):Calls Tryz.prog 14 #[.int .i64 e] w fun e' w'=>e' = .returned (.int .i64 e) ∧ w = w':=by
 go_enter Tryz.func14,Tryz.ntmps14
 go_wp2_with fail
 go_ret
 exact ⟨rfl,rfl⟩
structure Gl (w:World):Prop where
 tab:Lib.TabIs Tryz.prog w "strings.asciiSpace" .u8 Lib.asciiSpaceTab
 mx:∃ m:Int,w.cell? ⟨1,0,none⟩ = some (.int .i64 m)
theorem Gl.below {w w':World} (h:Gl w) (hb:Below w.heap.size w w'):Gl w':=by
 obtain ⟨h1,m,hm⟩:=h
 exact ⟨tab_below h1 hb,m,by rw [hb.cell (p:=⟨1,0,none⟩) (World.block_lt_of_cell? w ⟨1,0,none⟩ hm)];exact hm⟩
def awS:List UInt8 := [115,101,116,32,97,32,61,32,49,32,45,32,50,32,45,32,51,59]
def awR:List UInt8 := [102,114,111,109,32,34,34,59,32,114,117,110,32,123]
def okS (r:Option (List Nd × PS)):Bool:=match r with
 | some ([.mk _ _ _ [.mk _ _ _ [.mk k _ _ _ _,_] _] _],s)=>k == 18 && s.code == 0
 | _=>false
def okR (r:Option (Nd × PS)):Bool:=match r with
 | some (_,s)=>s.code == 1900 && s.bad == 14
 | _=>false
theorem awS_ok:okS (stmtsR (envOf awS) 1600024 100002 [] st0) = true:=by decide +kernel
theorem awR_ok:okR (recipeR (envOf awR) 1600024 100002 100002 st0) = true:=by decide +kernel
theorem aw_script (w:World) (hg:Gl w):Calls Tryz.prog 29 #[.string ⟨awS.toArray⟩] w fun e w'=>∃ (g g1 g2 n l1 n1 n2:Nat),e = .returned (.tuple #[.agg #[.int .i64 8,.string ⟨#[]⟩,.float .f64 0,.slice (some ⟨g,0,none⟩) 1 n,.int .i64 0],.int .i64 0,.int .i64 0]) ∧
  w'.cell? ⟨g,3,none⟩ = some (.slice (some ⟨g1,0,none⟩) 1 n1) ∧ w'.cell? ⟨g1,3,none⟩ = some (.slice (some ⟨g2,0,none⟩) 2 n2) ∧ w'.cell? ⟨g2,0,none⟩ = some (.int .i64 18) ∧ 1 ≤ n ∧ n ≤ maxLen ∧ 1 ≤ n1 ∧ n1 ≤ maxLen ∧ 2 ≤ n2 ∧ n2 ≤ maxLen ∧ Below w.heap.size w w':=by
 have h:=awS_ok
 unfold okS at h
 split at h
 ·rename_i k0 t0 m0 k1 t1 m1 k t m ks at0 y at1 at2 s hr
  simp only [Bool.and_eq_true,beq_iff_eq] at h
  obtain ⟨rfl,hc⟩:=h
  refine (pScript_any ⟨awS.toArray⟩ w (by decide) hg.tab hg.mx 1600024 100002 _ s (by omega) (by omega) hr).mono ?_
  intro e w' ht
  rw [TreeR,if_pos hc] at ht
  obtain ⟨a,n,S,rfl,⟨d,hk⟩,-,hb⟩:=ht
  have e1:∀ (k:Int) (t:List UInt8) (n:Nat) (ks:List Nd) (a:Int),(Nd.mk k t n ks a).kids = ks:=fun _ _ _ _ _=>rfl
  rw [e1] at hk
  obtain ⟨g,c,s1,rfl,-,h0,h1,h2,-,-,-,j3,-,hk1,-⟩:=hk.kid (i:=0) rfl
  rw [e1] at hk1
  obtain ⟨d,rfl⟩:∃ e,d = e + 1:=by
   cases d with
   | zero=>exact hk1.elim
   | succ d=>exact ⟨d,rfl⟩
  obtain ⟨a1,n1,rfl⟩:=hk1.slice
  obtain ⟨g1,c1,s2,rfl,-,h3,h4,h5,-,-,-,i3,-,hk2,-⟩:=hk1.kid (i:=0) rfl
  rw [e1] at hk2
  obtain ⟨d,rfl⟩:∃ e,d = e + 1:=by
   cases d with
   | zero=>exact hk2.elim
   | succ d=>exact ⟨d,rfl⟩
  obtain ⟨a2,n2,rfl⟩:=hk2.slice
  obtain ⟨g2,c2,s3,rfl,-,h6,h7,h8,l0,-⟩:=hk2.kid (i:=0) rfl
  exact ⟨g,g1,g2,n,0,n1,n2,rfl,by simpa using j3,by simpa using i3,by simpa [Nd.kind] using l0,h1,h2,h4,h5,h7,h8,hb⟩
 ·cases h
theorem aw_recipe (w:World) (hg:Gl w):Calls Tryz.prog 24 #[.string ⟨awR.toArray⟩] w fun e w'=>e = .returned (.tuple #[.agg #[.int .i64 0,.string ⟨#[]⟩,.float .f64 0,.slice none 0 0,.int .i64 0],.int .i64 14,.int .i64 1900]) ∧ Below w.heap.size w w':=by
 have h:=awR_ok
 unfold okR at h
 split at h
 ·rename_i x s hr
  simp only [Bool.and_eq_true,beq_iff_eq] at h
  refine (pRecipe_any ⟨awR.toArray⟩ w (by decide) hg.tab hg.mx 1600024 100002 100002 x s (by omega) (by omega) (by omega) hr).mono ?_
  intro e w' ht
  rw [TreeR,if_neg (by rw [h.1];decide),h.1,h.2] at ht
  exact ht
 ·cases h
set_option maxHeartbeats 1000000 in
theorem awake_any (w:World) (hg:Gl w):Calls Tryz.prog 28 #[] w fun e w'=>e = .returned (.bool true) ∧ Below w.heap.size w w':=by
 have H1:=Lib.hid (fun W (h:Below w.heap.size w W)=>aw_script W (hg.below h))
 have H2:=Lib.hid (fun W (h:Below w.heap.size w W)=>aw_recipe W (hg.below h))
 clear hg
 go_enter Tryz.func28,Tryz.ntmps28
 go_wp2_with fail
 refine (H1.out _ (Below.refl _ _)).mono ?_;rintro e w1 ⟨g,g1,g2,n,l1,n1,n2,rfl,k1,k2,k3,h1,h2,h3,h4,h5,h6,hb⟩
 have HB:=Lib.hid hb
 have hg1:=World.block_lt_of_cell? w1 ⟨g,3,none⟩ k1
 have hg2:=World.block_lt_of_cell? w1 ⟨g1,3,none⟩ k2
 have hg3:=World.block_lt_of_cell? w1 ⟨g2,0,none⟩ k3
 clear hb H1
 go_wp2_with fail
 have HB2:=Lib.hid (HB.out.alloc HB.out.size (.cells #[.int .i64 8,.string ⟨#[]⟩,.float .f64 0,.slice (some ⟨g,0,none⟩) 1 n,.int .i64 0] 61 (0,0)))
 have HN:Hid ((w1.alloc (.cells #[.int .i64 8,.string ⟨#[]⟩,.float .f64 0,.slice (some ⟨g,0,none⟩) 1 n,.int .i64 0] 61 (0,0))).heap[w1.heap.size]? = some _):=blk_new _ _
 refine (H2.out _ HB2.out).mono ?_;rintro e w2 ⟨rfl,hb⟩
 have hbb:=((Below.refl w1.heap.size w1).alloc (Nat.le_refl _) (.cells #[.int .i64 8,.string ⟨#[]⟩,.float .f64 0,.slice (some ⟨g,0,none⟩) 1 n,.int .i64 0] 61 (0,0))).trans (hb.mono (by simp))
 have j1:=(hbb.cell (p:=⟨g,3,none⟩) hg1).trans k1
 have j2:=(hbb.cell (p:=⟨g1,3,none⟩) hg2).trans k2
 have j3:=(hbb.cell (p:=⟨g2,0,none⟩) hg3).trans k3
 have hx:=blk_below HN.out hb
 have HB3:=Lib.hid (HB2.out.trans (hb.mono HB2.out.size))
 have p0:=blk_cell (hx) 0
 have p1:=blk_cell (hx) 1
 have p2:=blk_cell (hx) 2
 have p3:=blk_cell (hx) 3
 have p4:=blk_cell (hx) 4
 have pf0:=blk_free (hx) 0
 have pf1:=blk_free (hx) 1
 have pf2:=blk_free (hx) 2
 have pf3:=blk_free (hx) 3
 have pf4:=blk_free (hx) 4
 have pl:=blk_lt (hx)
 simp only [List.getElem?_toArray,List.getElem?_cons_zero,List.getElem?_cons_succ] at p0 p1 p2 p3 p4
 have hg1':=World.block_lt_of_cell? w2 ⟨g,3,none⟩ j1
 have hg2':=World.block_lt_of_cell? w2 ⟨g1,3,none⟩ j2
 have hg3':=World.block_lt_of_cell? w2 ⟨g2,0,none⟩ j3
 unfold maxLen at h2 h4 h6
 clear hb hbb k1 k2 k3 hg1 hg2 hg3 HB HB2 H2 hx HN
 go_wp2_with (go_at_call 14;refine (Num_any _ _).mono ?_;rintro e w' ⟨rfl,rfl⟩)
 all_goals
  first | go_ret | go_ret2
  exact ⟨rfl,HB3.out.alloc HB3.out.size _⟩
end Go.Proofs.YtmfpmandkhiknaaGreatDoor.qar
namespace Go.Proofs.YtmfpmandkhiknaaGreatDoor.par
open Go.RowKit
open heap
open lex (Tk TRow TkAt run_store_float add0)
set_option maxRecDepth 100000
attribute [local go_sem] run_store_float
structure SI (w:World) (x:Nd) (v1 v2:Value) (wr:World):Prop where
 b1:wr.heap[w.heap.size]? = some (ndO x v1)
 b2:wr.heap[w.heap.size + 1]? = some (ndO x v2)
 bel:Below w.heap.size w wr
theorem SI.drew {w wr:World} {x:Nd} {v1 v2:Value} (h:SI w x v1 v2 wr):SI w x v1 v2 wr.drew:=⟨h.b1,h.b2,h.bel.drew⟩
theorem SI.below {w wr w2:World} {x:Nd} {v1 v2:Value} (h:SI w x v1 v2 wr) (hb:Below wr.heap.size wr w2):SI w x v1 v2 w2:=⟨blk_below h.b1 hb,blk_below h.b2 hb,h.bel.trans (hb.mono h.bel.size)⟩
theorem KV.len {T:TypeId} {w:World} {d:Nat} {xs:List Nd} {v:Value} {S:List Nat} (h:KV T w d xs v S):xs.length ≤ 9223372036854775807:=by
 cases d with
 | zero=>exact h.elim
 | succ d =>
  cases xs with
  | nil=>simp
  | cons y ys =>
   obtain ⟨a,c,rfl⟩:=h.slice
   obtain ⟨g1,c1,s1,-,-,-,h1,h2,-⟩:=h.kid (i:=0) (x:=y) rfl
   unfold maxLen at h2
   omega
structure Spo (S:List Nat) (w w':World):Prop where
 turned:Turned S w w'
 rows:∀ b ∈ S,∀ cur,w.heap[b]? = some (.cells cur 61 (0,0)) → ∃ cur',w'.heap[b]? = some (.cells cur' 61 (0,0)) ∧ ∀ j:Nat,(j % 5 ≠ 0 → cur'[j]? = cur[j]?) ∧ ∀ m:Int,cur[j]? = some (.int .i64 m) → ∃ m':Int,cur'[j]? = some (.int .i64 m')
theorem Spo.refl (S:List Nat) (w:World):Spo S w w:=⟨Turned.refl _ _,fun b hb cur h=>⟨cur,h,fun j=>⟨fun _=>rfl,fun m hm=>⟨m,hm⟩⟩⟩⟩
theorem Spo.trans {S:List Nat} {w w1 w2:World} (h:Spo S w w1) (k:Spo S w1 w2):Spo S w w2:=by
 refine ⟨h.turned.trans k.turned,fun b hb cur hc => ?_⟩
 obtain ⟨c1,h1,h2⟩:=h.rows b hb cur hc
 obtain ⟨c2,k1,k2⟩:=k.rows b hb c1 h1
 refine ⟨c2,k1,fun j=>⟨fun hj=>((k2 j).1 hj).trans ((h2 j).1 hj),fun m hm => ?_⟩⟩
 obtain ⟨m1,e1⟩:=(h2 j).2 m hm
 exact (k2 j).2 m1 e1
theorem Spo.of_below {S:List Nat} {w w':World} (h:Below w.heap.size w w'):Spo S w w':=⟨Turned.of_below h,fun b hb cur hc=>⟨cur,blk_below hc h,fun j=>⟨fun _=>rfl,fun m hm=>⟨m,hm⟩⟩⟩⟩
theorem Spo.drew {S:List Nat} {w w':World} (h:Spo S w w'):Spo S w w'.drew:=h.trans (Spo.of_below (Below.refl _ _).drew)
theorem Spo.set {S:List Nat} {w:World} {g i:Nat} {cur:Array Value} (hg:g ∈ S) (h:w.heap[g]? = some (.cells cur 61 (0,0))) {k:Int} (hk:cur[i * 5]? = some (.int .i64 k)) (m:Int):Spo S w (w.setCell ⟨g,i * 5,none⟩ (.int .i64 m)):=by
 refine ⟨(Turned.refl _ _).setCell (by simpa using hg) _,fun b hb c hc => ?_⟩
 by_cases e:b = g
 ·subst e
  rw [h] at hc
  simp only [Option.some.injEq,Obj.cells.injEq,and_true] at hc
  subst hc
  refine ⟨_,blk_set h (i * 5) _,fun j=>⟨fun hj => ?_,fun m2 hm => ?_⟩⟩
  ·rw [Array.getElem?_setIfInBounds_ne (by omega)]
  ·by_cases ej:i * 5 = j
   ·subst ej
    have hlt:i * 5 < cur.size:=(Array.getElem?_eq_some_iff.1 hm).1
    exact ⟨m,by rw [Array.getElem?_setIfInBounds_self_of_lt hlt]⟩
   ·exact ⟨m2,by rw [Array.getElem?_setIfInBounds_ne ej];exact hm⟩
 ·exact ⟨c,by rw [blk_other e];exact hc,fun j=>⟨fun _=>rfl,fun m hm=>⟨m,hm⟩⟩⟩
end Go.Proofs.YtmfpmandkhiknaaGreatDoor.par
namespace Go.Proofs.YtmfpmandkhiknaaGreatDoor.qar
open par
open Go.RowKit
open heap
open lex (Tk TRow TkAt run_store_float add0 scanL Tokens_any tab_below)
open many (envOf st0 recipeR)
open num (list_len)
set_option maxRecDepth 100000
attribute [local go_sem] run_store_float field_tok0 field_tok1 field_tok3
def resN (x:Nd) (s9:PS):Nd:=if s9.code = 0 then x else zero
def resP (s9:PS):Int:=if s9.code = 0 then 0 else s9.bad
structure AnsT (x:Nd) (b:Nat) (v:Value) (S:List Nat) (w:World):Prop where
 ok:(Tr.mk x.kids v S).ok w
 own:∀ k ∈ S,b ≤ k
theorem TreeR.ans {x:Nd} {s9:PS} {w:World} {e:Ending} {w':World} (h:TreeR x s9 w e w'):∃ (a:Option Addr) (n:Nat) (S:List Nat),e = .returned (.tuple #[ndV (resN x s9) (.slice a (resN x s9).kids.length n),.int .i64 (resP s9),.int .i64 s9.code]) ∧ AnsT (resN x s9) w.heap.size (.slice a (resN x s9).kids.length n) S w' ∧ Below w.heap.size w w':=by
 rw [TreeR] at h
 unfold resN resP
 by_cases hc:s9.code = 0
 ·rw [if_pos hc] at h
  obtain ⟨a,n,S,rfl,hk,hS,hb⟩:=h
  rw [if_pos hc,if_pos hc,hc]
  exact ⟨a,n,S,rfl,⟨hk,hS⟩,hb⟩
 ·rw [if_neg hc] at h
  obtain ⟨rfl,hb⟩:=h
  rw [if_neg hc,if_neg hc]
  exact ⟨none,0,[],rfl,⟨Tr.nil _,by simp⟩,hb⟩
theorem AnsT.below {x:Nd} {b:Nat} {v:Value} {S:List Nat} {w w':World} (h:AnsT x b v S w) (hb:Below w.heap.size w w'):AnsT x b v S w':=⟨h.ok.turned (R := []) (Turned.of_below hb) (by simp),h.own⟩
theorem AnsT.turned {x:Nd} {b:Nat} {v:Value} {S R:List Nat} {w w':World} (h:AnsT x b v S w) (ht:Turned R w w') (hd:∀ k ∈ S,k ∉ R):AnsT x b v S w':=⟨h.ok.turned ht hd,h.own⟩
theorem AnsT.lt {x:Nd} {b:Nat} {v:Value} {S:List Nat} {w:World} (h:AnsT x b v S w):∀ k ∈ S,k < w.heap.size:=h.ok.lt
structure Ans3 (w:World) (y:Nd) (p1 p2 p3:Nat) (v1 v2 v3:Value) (S1 S2 S3:List Nat) (W:World):Prop where
 c1:W.heap[p1]? = some (ndO y v1)
 c2:W.heap[p2]? = some (ndO y v2)
 c3:W.heap[p3]? = some (ndO y v3)
 k1:AnsT y w.heap.size v1 S1 W
 k2:AnsT y (p1 + 1) v2 S2 W
 k3:AnsT y (p2 + 1) v3 S3 W
 bel:Below w.heap.size w W
 o1:w.heap.size ≤ p1
 l1:∀ k ∈ S1,k < p1
 o2:p1 < p2
 o3:p2 < p3
theorem Ans3.below {w:World} {y:Nd} {p1 p2 p3:Nat} {v1 v2 v3:Value} {S1 S2 S3:List Nat} {W W':World} (h:Ans3 w y p1 p2 p3 v1 v2 v3 S1 S2 S3 W) (hb:Below W.heap.size W W'):Ans3 w y p1 p2 p3 v1 v2 v3 S1 S2 S3 W':=
 ⟨blk_below h.c1 hb,blk_below h.c2 hb,blk_below h.c3 hb,h.k1.below hb,h.k2.below hb,h.k3.below hb,h.bel.trans (hb.mono h.bel.size),h.o1,h.l1,h.o2,h.o3⟩
end Go.Proofs.YtmfpmandkhiknaaGreatDoor.qar
namespace Go.Proofs.YtmfpmandkhiknaaGreatDoor.qar
open par
open Go.RowKit
open heap
open lex (Tk TRow TkAt run_store_float add0 scanL Tokens_any tab_below)
open many (envOf st0 recipeR)
open num (list_len)
set_option maxRecDepth 1000000
attribute [local go_sem] run_store_float field_tok0 field_tok1 field_tok3
theorem bapp (a b:List UInt8):(⟨a.toArray⟩:ByteArray) ++ ⟨b.toArray⟩ = ⟨(a ++ b).toArray⟩:=by
 apply ByteArray.ext
 simp
theorem and_low (c:Int) (m:Nat) (hm:m < 1000):∃ q:Nat,q ≤ m ∧ bits .and .i64 c m = (q:Int):=by
 have h2:(BitVec.ofInt 64 (m:Int)).toNat = m:=by
  rw [BitVec.ofInt_natCast,BitVec.toNat_ofNat]
  exact Nat.mod_eq_of_lt (by omega)
 have h:(BitVec.ofInt 64 c &&& BitVec.ofInt 64 (m:Int)).toNat ≤ m:=by
  rw [BitVec.toNat_and,h2];exact Nat.and_le_right
 refine ⟨(BitVec.ofInt 64 c &&& BitVec.ofInt 64 (m:Int)).toNat,h,?_⟩
 show IntKind.i64.wrap ((BitVec.ofInt 64 c &&& BitVec.ofInt 64 (m:Int)).toNat:Int) = _
 generalize (BitVec.ofInt 64 c &&& BitVec.ofInt 64 (m:Int)).toNat = q at *
 exact IntWalk.i64_in _ (by omega)
def rep (a p:List UInt8):Nat → List UInt8
 | 0=>a
 | i + 1=>rep a p i ++ p
def repP (p b:List UInt8):Nat → List UInt8
 | 0=>b
 | i + 1=>p ++ repP p b i
theorem rep_len (a p:List UInt8) (i:Nat):(rep a p i).length = a.length + i * p.length:=by
 induction i with
 | zero=>simp [rep]
 | succ i ih=>rw [rep,List.length_append,ih,Nat.succ_mul];omega
theorem repP_len (p b:List UInt8) (i:Nat):(repP p b i).length = b.length + i * p.length:=by
 induction i with
 | zero=>simp [repP]
 | succ i ih=>rw [repP,List.length_append,ih,Nat.succ_mul];omega
def nestT:Nat → Nat → List UInt8
 | 0,k=>(rep [100,111,32] [40] k ++ [49]) ++ repP [41] [59] k
 | 1,k=>(rep [100,111,32] [45,32] k ++ [49]) ++ [59]
 | 2,k=>(rep [100,111,32] [116,101,120,116,40] k ++ [49]) ++ repP [41] [59] k
 | _,k=>rep [] [119,104,105,108,101,32,49,32,123] k ++ repP [125] [] k
def nestB (c k:Nat):Bool:=match stmtsR (envOf (nestT c k)) 1600024 100002 [] st0 with
 | some (_,s)=>s.code == (if k ≤ 41 then 0 else 1901)
 | none=>false
theorem nest_all:((List.range 4).all fun c=>(List.range 16).all fun j=>nestB c (30 + j)) = true:=by decide +kernel
theorem nest_len (c k:Nat) (hk:k ≤ 45):(nestT c k).length ≤ 1000:=by
 unfold nestT
 split <;> simp only [List.length_append,rep_len,repP_len,List.length_cons,List.length_nil] <;> omega
theorem nest_any (c k:Nat) (hc:c < 4) (h1:30 ≤ k) (h2:k ≤ 45) (w:World) (hg:Gl w):Calls Tryz.prog 29 #[.string ⟨(nestT c k).toArray⟩] w fun e w'=>∃ (y:Nd) (a:Option Addr) (n:Nat) (rp:Int),e = .returned (.tuple #[ndV y (.slice a y.kids.length n),.int .i64 rp,.int .i64 (if k ≤ 41 then 0 else 1901)]) ∧ Below w.heap.size w w':=by
 have h:=List.all_eq_true.1 (List.all_eq_true.1 nest_all c (List.mem_range.2 hc)) (k - 30) (List.mem_range.2 (by omega))
 rw [show 30 + (k - 30) = k by omega] at h
 unfold nestB at h
 split at h
 ·rename_i kf s hr
  have hl:=nest_len c k h2
  refine (pScript_any ⟨(nestT c k).toArray⟩ w ?_ hg.tab hg.mx 1600024 100002 kf s (by omega) (by omega) hr).mono ?_
  ·have e:(⟨(nestT c k).toArray⟩:ByteArray).size = (nestT c k).length:=rfl
   rw [e];unfold maxLen;omega
  ·intro e w' ht
   obtain ⟨a,n,S,rfl,-,hb⟩:=TreeR.ans ht
   rw [eq_of_beq h]
   exact ⟨_,a,n,_,rfl,hb⟩
 ·cases h
set_option maxHeartbeats 4000000 in
theorem parseNests_any (a b:Int) (w:World) (hg:Gl w):Calls Tryz.prog 10 #[.int .i64 a,.int .i64 b] w fun e w'=>e = .returned (.bool true) ∧ Below w.heap.size w w':=by
 have HG:=Lib.hid hg
 clear hg
 obtain ⟨q,hq,hq2⟩:=and_low a 15 (by omega)
 obtain ⟨c,hc,hc2⟩:=and_low b 3 (by omega)
 obtain ⟨k,hk⟩:∃ k,k = 30 + q:=⟨_,rfl⟩
 have hk1:30 ≤ k:=by omega
 have hk2:k ≤ 45:=by omega
 have hki:IntKind.i64.wrap ((30:Int) + q) = (k:Int):=by
  rw [show (30:Int) + q = (k:Int) by omega]
  exact IntWalk.i64_in _ (by omega)
 have hq2':bits .and .i64 a 15 = (q:Int):=hq2
 go_enter Tryz.func10,Tryz.ntmps10
 go_wp2_with fail
 refine (awake_any w HG.out).mono ?_;rintro e w1 ⟨rfl,hb⟩
 have HB:=Lib.hid hb
 clear hb
 go_upto_region 4 with fail
 have hke:(30:Int) + q = (k:Int):=by omega
 rw [hke]
 clear hq2 hq2' hki hk hq hke
 rcases (show c = 0 ∨ c = 1 ∨ c = 2 ∨ c = 3 by omega) with rfl | rfl | rfl | rfl
 ·have hc3:bits .and .i64 b 3 = 0:=hc2
  clear hc2
  have HT:=Lib.hid (fun W (h:Below w.heap.size w W)=>nest_any 0 k (by omega) hk1 hk2 W (HG.out.below h))
  clear HG
  go_upto_region 13 with fail
  clear hc3
  have h3:=fun i=>(bapp (rep [100,111,32] [40] i) [40]:_ = ByteArray.mk (rep [100,111,32] [40] (i + 1)).toArray)
  have h4:=fun i=>(bapp [41] (repP [41] [59] i):_ = ByteArray.mk (repP [41] [59] (i + 1)).toArray)
  go_loopg [6,7,8] k (fun kk v6 v7 v8 wr=>∃ i:Nat,i + kk = k ∧ v6 = .string ⟨(rep [100,111,32] [40] i).toArray⟩ ∧ v7 = .string ⟨(repP [41] [59] i).toArray⟩ ∧ v8 = .int .i64 i ∧ wr = w1)
  case atStart=>exact ⟨0,by omega,rfl,rfl,rfl,rfl⟩
  case round =>
   obtain ⟨i,hik,rfl,rfl,rfl,rfl⟩:=hrel
   have h1:=rep_len [100,111,32] [40] i
   have h2:=repP_len [41] [59] i
   simp only [List.length_cons,List.length_nil] at h1 h2
   by_cases hlt:i < k
   ·cases gk with
    | zero=>omega
    | succ gk =>
    have h3:=h3 i
    have h4:=h4 i
    go_wp2_with fail
    go_roundg gk
    case rel=>exact ⟨i + 1,by omega,rfl,rfl,by go_num,rfl⟩
    case measure=>omega
   ·have hik2:i = k:=by omega
    subst hik2
    clear h3 h4
    have h5:=bapp (rep [100,111,32] [40] i) [49]
    have h6:(⟨(rep [100,111,32] [40] i ++ [49]).toArray⟩:ByteArray) ++ ⟨(repP [41] [59] i:List UInt8).toArray⟩ = ⟨(nestT 0 i).toArray⟩:=bapp _ _
    have h7:(rep [100,111,32] [40] i ++ [49]).length ≤ 1000:=by rw [List.length_append,h1,List.length_singleton];omega
    have h8:(rep [100,111,32] [40] i).length ≤ 1000:=by omega
    have h9:(repP [41] [59] i:List UInt8).length ≤ 1000:=by first | omega | decide
    generalize rep [100,111,32] [40] i ++ [49] = r1 at *
    clear h1
    go_wp2_with fail
    refine (HT.out _ HB.out).mono ?_
    rintro e w2 ⟨y,ya,yn,rp,rfl,hb⟩
    have HB2:=Lib.hid (HB.out.trans (hb.mono HB.out.size))
    clear hb HT
    by_cases hk41:i ≤ 41
    ·rw [if_pos hk41]
     have hkd:(i:Int) ≤ 41:=by omega
     go_wp2_with (go_at_call 14;refine (Num_any _ _).mono ?_;rintro e w' ⟨rfl,rfl⟩)
     go_ret
     exact ⟨rfl,HB2.out.alloc HB2.out.size _⟩
    ·rw [if_neg hk41]
     have hkd:decide ((i:Int) ≤ 41) = false:=decide_eq_false (by omega)
     go_wp2_with (go_at_call 14;refine (Num_any _ _).mono ?_;rintro e w' ⟨rfl,rfl⟩)
     go_ret
     exact ⟨rfl,HB2.out.alloc HB2.out.size _⟩
 ·have hc3:bits .and .i64 b 3 = 1:=hc2
  clear hc2
  have HT:=Lib.hid (fun W (h:Below w.heap.size w W)=>nest_any 1 k (by omega) hk1 hk2 W (HG.out.below h))
  clear HG
  go_upto_region 19 with fail
  clear hc3
  have h3:=fun i=>(bapp (rep [100,111,32] [45,32] i) [45,32]:_ = ByteArray.mk (rep [100,111,32] [45,32] (i + 1)).toArray)
  go_loopg [6,9] k (fun kk v6 v8 wr=>∃ i:Nat,i + kk = k ∧ v6 = .string ⟨(rep [100,111,32] [45,32] i).toArray⟩ ∧ v8 = .int .i64 i ∧ wr = w1)
  case atStart=>exact ⟨0,by omega,rfl,rfl,rfl⟩
  case round =>
   obtain ⟨i,hik,rfl,rfl,rfl⟩:=hrel
   have h1:=rep_len [100,111,32] [45,32] i
   simp only [List.length_cons,List.length_nil] at h1
   by_cases hlt:i < k
   ·cases gk with
    | zero=>omega
    | succ gk =>
    have h3:=h3 i
    go_wp2_with fail
    go_roundg gk
    case rel=>exact ⟨i + 1,by omega,rfl,by go_num,rfl⟩
    case measure=>omega
   ·have hik2:i = k:=by omega
    subst hik2
    clear h3
    have h5:=bapp (rep [100,111,32] [45,32] i) [49]
    have h6:(⟨(rep [100,111,32] [45,32] i ++ [49]).toArray⟩:ByteArray) ++ ⟨([59]:List UInt8).toArray⟩ = ⟨(nestT 1 i).toArray⟩:=bapp _ _
    have h7:(rep [100,111,32] [45,32] i ++ [49]).length ≤ 1000:=by rw [List.length_append,h1,List.length_singleton];omega
    have h8:(rep [100,111,32] [45,32] i).length ≤ 1000:=by omega
    have h9:([59]:List UInt8).length ≤ 1000:=by first | omega | decide
    generalize rep [100,111,32] [45,32] i ++ [49] = r1 at *
    clear h1
    go_wp2_with fail
    refine (HT.out _ HB.out).mono ?_
    rintro e w2 ⟨y,ya,yn,rp,rfl,hb⟩
    have HB2:=Lib.hid (HB.out.trans (hb.mono HB.out.size))
    clear hb HT
    by_cases hk41:i ≤ 41
    ·rw [if_pos hk41]
     have hkd:(i:Int) ≤ 41:=by omega
     go_wp2_with (go_at_call 14;refine (Num_any _ _).mono ?_;rintro e w' ⟨rfl,rfl⟩)
     go_ret
     exact ⟨rfl,HB2.out.alloc HB2.out.size _⟩
    ·rw [if_neg hk41]
     have hkd:decide ((i:Int) ≤ 41) = false:=decide_eq_false (by omega)
     go_wp2_with (go_at_call 14;refine (Num_any _ _).mono ?_;rintro e w' ⟨rfl,rfl⟩)
     go_ret
     exact ⟨rfl,HB2.out.alloc HB2.out.size _⟩
 ·have hc3:bits .and .i64 b 3 = 2:=hc2
  clear hc2
  have HT:=Lib.hid (fun W (h:Below w.heap.size w W)=>nest_any 2 k (by omega) hk1 hk2 W (HG.out.below h))
  clear HG
  go_upto_region 25 with fail
  clear hc3
  have h3:=fun i=>(bapp (rep [100,111,32] [116,101,120,116,40] i) [116,101,120,116,40]:_ = ByteArray.mk (rep [100,111,32] [116,101,120,116,40] (i + 1)).toArray)
  have h4:=fun i=>(bapp [41] (repP [41] [59] i):_ = ByteArray.mk (repP [41] [59] (i + 1)).toArray)
  go_loopg [6,7,10] k (fun kk v6 v7 v8 wr=>∃ i:Nat,i + kk = k ∧ v6 = .string ⟨(rep [100,111,32] [116,101,120,116,40] i).toArray⟩ ∧ v7 = .string ⟨(repP [41] [59] i).toArray⟩ ∧ v8 = .int .i64 i ∧ wr = w1)
  case atStart=>exact ⟨0,by omega,rfl,rfl,rfl,rfl⟩
  case round =>
   obtain ⟨i,hik,rfl,rfl,rfl,rfl⟩:=hrel
   have h1:=rep_len [100,111,32] [116,101,120,116,40] i
   have h2:=repP_len [41] [59] i
   simp only [List.length_cons,List.length_nil] at h1 h2
   by_cases hlt:i < k
   ·cases gk with
    | zero=>omega
    | succ gk =>
    have h3:=h3 i
    have h4:=h4 i
    go_wp2_with fail
    go_roundg gk
    case rel=>exact ⟨i + 1,by omega,rfl,rfl,by go_num,rfl⟩
    case measure=>omega
   ·have hik2:i = k:=by omega
    subst hik2
    clear h3 h4
    have h5:=bapp (rep [100,111,32] [116,101,120,116,40] i) [49]
    have h6:(⟨(rep [100,111,32] [116,101,120,116,40] i ++ [49]).toArray⟩:ByteArray) ++ ⟨(repP [41] [59] i:List UInt8).toArray⟩ = ⟨(nestT 2 i).toArray⟩:=bapp _ _
    have h7:(rep [100,111,32] [116,101,120,116,40] i ++ [49]).length ≤ 1000:=by rw [List.length_append,h1,List.length_singleton];omega
    have h8:(rep [100,111,32] [116,101,120,116,40] i).length ≤ 1000:=by omega
    have h9:(repP [41] [59] i:List UInt8).length ≤ 1000:=by first | omega | decide
    generalize rep [100,111,32] [116,101,120,116,40] i ++ [49] = r1 at *
    clear h1
    go_wp2_with fail
    refine (HT.out _ HB.out).mono ?_
    rintro e w2 ⟨y,ya,yn,rp,rfl,hb⟩
    have HB2:=Lib.hid (HB.out.trans (hb.mono HB.out.size))
    clear hb HT
    by_cases hk41:i ≤ 41
    ·rw [if_pos hk41]
     have hkd:(i:Int) ≤ 41:=by omega
     go_wp2_with (go_at_call 14;refine (Num_any _ _).mono ?_;rintro e w' ⟨rfl,rfl⟩)
     go_ret
     exact ⟨rfl,HB2.out.alloc HB2.out.size _⟩
    ·rw [if_neg hk41]
     have hkd:decide ((i:Int) ≤ 41) = false:=decide_eq_false (by omega)
     go_wp2_with (go_at_call 14;refine (Num_any _ _).mono ?_;rintro e w' ⟨rfl,rfl⟩)
     go_ret
     exact ⟨rfl,HB2.out.alloc HB2.out.size _⟩
 ·have hc3:bits .and .i64 b 3 = 3:=hc2
  clear hc2
  have HT:=Lib.hid (fun W (h:Below w.heap.size w W)=>nest_any 3 k (by omega) hk1 hk2 W (HG.out.below h))
  clear HG
  go_upto_region 8 with fail
  clear hc3
  have h3:=fun i=>(bapp (rep [] [119,104,105,108,101,32,49,32,123] i) [119,104,105,108,101,32,49,32,123]:_ = ByteArray.mk (rep [] [119,104,105,108,101,32,49,32,123] (i + 1)).toArray)
  have h4:=fun i=>(bapp [125] (repP [125] [] i):_ = ByteArray.mk (repP [125] [] (i + 1)).toArray)
  go_loopg [6,7,11] k (fun kk v6 v7 v8 wr=>∃ i:Nat,i + kk = k ∧ v6 = .string ⟨(rep [] [119,104,105,108,101,32,49,32,123] i).toArray⟩ ∧ v7 = .string ⟨(repP [125] [] i).toArray⟩ ∧ v8 = .int .i64 i ∧ wr = w1)
  case atStart=>exact ⟨0,by omega,rfl,rfl,rfl,rfl⟩
  case round =>
   obtain ⟨i,hik,rfl,rfl,rfl,rfl⟩:=hrel
   have h1:=rep_len [] [119,104,105,108,101,32,49,32,123] i
   have h2:=repP_len [125] [] i
   simp only [List.length_cons,List.length_nil] at h1 h2
   by_cases hlt:i < k
   ·cases gk with
    | zero=>omega
    | succ gk =>
    have h3:=h3 i
    have h4:=h4 i
    go_wp2_with fail
    go_roundg gk
    case rel=>exact ⟨i + 1,by omega,rfl,rfl,by go_num,rfl⟩
    case measure=>omega
   ·have hik2:i = k:=by omega
    subst hik2
    clear h3 h4
    have h6:(⟨(rep [] [119,104,105,108,101,32,49,32,123] i).toArray⟩:ByteArray) ++ ⟨(repP [125] [] i:List UInt8).toArray⟩ = ⟨(nestT 3 i).toArray⟩:=bapp _ _
    have h8:(rep [] [119,104,105,108,101,32,49,32,123] i).length ≤ 1000:=by omega
    have h9:(repP [125] [] i:List UInt8).length ≤ 1000:=by first | omega | decide
    clear h1
    go_wp2_with fail
    refine (HT.out _ HB.out).mono ?_
    rintro e w2 ⟨y,ya,yn,rp,rfl,hb⟩
    have HB2:=Lib.hid (HB.out.trans (hb.mono HB.out.size))
    clear hb HT
    by_cases hk41:i ≤ 41
    ·rw [if_pos hk41]
     have hkd:(i:Int) ≤ 41:=by omega
     go_wp2_with (go_at_call 14;refine (Num_any _ _).mono ?_;rintro e w' ⟨rfl,rfl⟩)
     go_ret
     exact ⟨rfl,HB2.out.alloc HB2.out.size _⟩
    ·rw [if_neg hk41]
     have hkd:decide ((i:Int) ≤ 41) = false:=decide_eq_false (by omega)
     go_wp2_with (go_at_call 14;refine (Num_any _ _).mono ?_;rintro e w' ⟨rfl,rfl⟩)
     go_ret
     exact ⟨rfl,HB2.out.alloc HB2.out.size _⟩
end Go.Proofs.YtmfpmandkhiknaaGreatDoor.qar
