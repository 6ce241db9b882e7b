/-
  Proved: what ParseLeans needs beside its walk: the statement's map, its row of operators, its text, what Script answers. Conditions: as each theorem says.
  Proved: that ParseLeans says true, of every picks. Conditions: as each theorem says.
  Proved: how a slice of numbers that comes in is opened. Conditions: as each theorem says.
-/
import Derived.Test.YtmfpmandkhiknaaGreatDoorPu38
import Derived.Laws.AppendOwn
import Derived.ChangeSlices
set_option linter.unusedVariables false
set_option linter.unusedSimpArgs false
namespace Go.Proofs.YtmfpmandkhiknaaGreatDoor.qar
open par
open Go.RowKit
open heap maps
open lex (Tk TRow TkAt run_store_float add0)
open many (envOf st0)
set_option maxRecDepth 100000
theorem leans_all {os:List Nat} {n:Nat} {x:Nd} (h:Lns os n x) (hn:n + os.length < 100):LnAt os n x:=by
 induction h with
 | leaf n a=>exact leans_leaf n a (by simpa using hn)
 | node o1 p o2 n x y a hx hy h1 h2 ih1 ih2 =>
  have hl:(o1 ++ p :: o2).length = o1.length + 1 + o2.length:=by simp;omega
  exact leans_node o1 p o2 n x y a (by omega) h1 h2 (ih1 (by omega)) (ih2 (by omega))
theorem wpList_insert {P:Program} {w:World} {ops:Array Oper} {rest:List Oper} {o:Oper} {a:Act} {Q:Exit → Act → World → Prop} {t kt et:TypeId} {m x y:Operand} {b:Nat} {l:List (Nm × Value)} {k:Nm} {v:Value} (hgd:o.guard = none)
  (ho:o.op = .insert t m x y) (ht:P.underlying t = some (.map kt et)) (hk:P.underlying kt = some .string) (hm:a.eval m = .map (some b)) (hx:a.eval x = .string ⟨k.toArray⟩) (hy:a.eval y = v) (h:MapS w b l) (hf:(maps.look k l 0).isNone = true)
  (hn:∀ w',MapS w' b (l ++ [(k,v)]) → Turned [b] w w' → wpList P ops Q rest (a.put o.dst undef) w'):wpList P ops Q (o :: rest) a w:=by
 refine wpList_plain hgd fun K hK => ?_
 obtain ⟨w',h1,h2,h3⟩:=run_update h ht hk k v
 have h4:MapS w' b (l ++ [(k,v)]):=by
  unfold upd at h2
  cases hl:maps.look k l 0 with
  | none=>rw [hl] at h2;exact h2
  | some r=>rw [hl] at hf;exact absurd hf Bool.false_ne_true
 unfold Oper.wp
 simp [execOp,ho,hm,hx,hy,h1,Result.andThen]
 exact hK _ _ (hn w' h4 h3)
def SRow (w:World) (base:Nat) (v:Value) (os:List Nat):Prop:=w.ownsRow base 9 1 v os.length (os.map fun o=>.string ⟨#[sg o]⟩)
theorem infoS:(Tryz.prog.info? 9).map (fun i=>(i.zero,i.size,i.bytes)) = some (some (.string ⟨#[]⟩),1,16):=by kernel_rfl
theorem SRow.nil (w:World) (base:Nat):SRow w base (.slice none 0 0) []:=World.ownsRow_nil _ _ _ _
theorem SRow.slice {w:World} {base:Nat} {v:Value} {os:List Nat} (h:SRow w base v os):∃ a c,v = .slice a os.length c:=by
 obtain ⟨_,⟨h,h0⟩ | ⟨_,_,_,h,_⟩⟩:=h
 ·exact ⟨none,0,by rw [h,h0]⟩
 ·exact ⟨_,_,h⟩
theorem SRow.below {w w':World} {base:Nat} {v:Value} {os:List Nat} (h:SRow w base v os) (hb:Below w.heap.size w w'):SRow w' base v os:=by
 obtain ⟨hl,h1 | ⟨g,c,cur,rfl,h2,h3,h4⟩⟩:=h
 ·exact ⟨hl,.inl h1⟩
 ·exact ⟨hl,.inr ⟨g,c,cur,rfl,h2,blk_below h3 hb,h4⟩⟩
theorem SRow.ov {w:World} {base:Nat} {v:Value} {os:List Nat} (h:SRow w base v os):OV w v os:=by
 have hcl := @World.ownsRow.cells _ _ _ _ _ _ _ h
 obtain ⟨hl,⟨hv,h0⟩ | ⟨g,c,cur,hv,h2,h3,h4,h5,h6,h7⟩⟩:=h
 ·refine ⟨none,0,by rw [hv,h0],by omega,by unfold maxLen;omega,fun j o hj => ?_⟩
  have:=(List.getElem?_eq_some_iff.1 hj).1
  omega
 ·refine ⟨_,c,hv,h4,h5,fun j o hj=>⟨g,0,rfl,?_⟩⟩
  have:=hcl (g:=g) (by rw [hv];rfl) j (.string ⟨#[sg o]⟩) (by rw [List.getElem?_map,hj];rfl)
  rw [add0] at this
  rw [Nat.zero_add]
  exact this
theorem app_str (B g:Nat) (v:Value) (os:List Nat) (o:Nat) (w:World) (h:SRow w B v os) (hg:w.heap[g]? = some (.cells #[.string ⟨#[sg o]⟩] 9 (0,0))) (hB:B ≤ w.heap.size) (hn:os.length ≤ 1000) :
  ∃ v2 w2,(Builtin.append_ #[39,39] 39 #[v,.slice (some ⟨g,0,none⟩) 1 1]).run Tryz.prog w = .ok v2 w2 ∧ SRow w2 B v2 (os ++ [o]) ∧ Turned v.ownBlock.toList w w2:=by
 obtain ⟨i0,hi,hz0,hz1,hz2⟩:=info_parts infoS
 obtain ⟨v2,w2,hrun,hown,hgr,_⟩:=run_append_own (P:=Tryz.prog) w B 39 39 9 i0 _ 1 16 Tryz.underlying39 hi hz0 hz1 hz2 rfl (by decide) v os.length _ h ⟨g,0,none⟩ 1 1 [.string ⟨#[sg o]⟩] rfl (fun j u hu=>by
  rw [add0,blk_cell hg]
  cases j with
  | zero=>simpa using hu
  | succ j=>simp at hu) (by simp [Value.oneCell']) (by unfold maxLen;omega) (by omega) hB
 refine ⟨v2,w2,hrun,?_,⟨hgr.os,hgr.tape,hgr.output,hgr.size,fun b hb hn=>hgr.block b hb (fun e=>hn (by simp [← e]))⟩⟩
 unfold SRow
 rw [List.length_append,List.map_append]
 exact hown
theorem round_str (w0 w:World) (v:Value) (os:List Nat) (o:Nat) (h:SRow w w0.heap.size v os) (hbl:Below w0.heap.size w0 w) (hn:os.length ≤ 1000) :
  ∃ v2 w5,(Builtin.append_ #[39,39] 39 #[v,.slice (some ⟨w.heap.size,0,none⟩) 1 1]).run Tryz.prog (w.alloc (.cells #[.string ⟨#[sg o]⟩] 9 (0,0))) = .ok v2 w5 ∧ SRow w5 w0.heap.size v2 (os ++ [o]) ∧ Below w0.heap.size w0 w5:=by
 have b2:Below w.heap.size w (w.alloc (.cells #[.string ⟨#[sg o]⟩] 9 (0,0))):=(Below.refl _ _).alloc (Nat.le_refl _) _
 obtain ⟨v2,w5,h1,h2,h3⟩:=app_str w0.heap.size w.heap.size v os o _ (h.below b2) (blk_new _ _) (by simp;have:=hbl.size;omega) hn
 refine ⟨v2,w5,h1,h2,(hbl.trans (b2.mono hbl.size)).trans (h3.below (by have:=hbl.size;simp;omega) (fun g hg => ?_))⟩
 exact (World.ownsRow.lt h g (by simpa using hg)).1
def bodyT:List Nat → Nat → List UInt8
 | [],_ => []
 | o :: os,i=>32 :: sg o :: 32 :: 118 :: (decL (i + 1) ++ bodyT os (i + 1))
theorem tail_body:∀ (os:List Nat) (i:Nat),tailT os i = bodyT os i ++ [59]
 | [],_=>rfl
 | o :: os,i=>by simp only [tailT,bodyT,tail_body os (i + 1),List.cons_append,List.append_assoc]
theorem body_snoc:∀ (os:List Nat) (i o:Nat),bodyT (os ++ [o]) i = bodyT os i ++ (32 :: sg o :: 32 :: 118 :: decL (i + os.length + 1))
 | [],i,o=>by simp [bodyT]
 | q :: os,i,o=>by
  simp only [List.cons_append,bodyT,body_snoc os (i + 1) o,List.append_assoc,List.length_cons]
  rw [show i + 1 + os.length + 1 = i + (os.length + 1) + 1 by omega]
def hdT (os:List Nat):List UInt8 := [100,111,32,118,48] ++ bodyT os 0
theorem hd_lns (os:List Nat):hdT os ++ [59] = lnsT os:=by
 unfold hdT lnsT
 rw [tail_body]
 rfl
theorem hd_snoc (os:List Nat) (o:Nat):(((hdT os ++ [32]) ++ [sg o]) ++ [32,118]) ++ decL (os.length + 1) = hdT (os ++ [o]):=by
 unfold hdT
 rw [body_snoc]
 simp
theorem hd_len (os:List Nat) (h:os.length ≤ 30):(hdT os).length ≤ 400:=by
 have h1:=tail_len os 0 (by omega)
 rw [tail_body,List.length_append,List.length_singleton] at h1
 unfold hdT
 rw [List.length_append]
 simp only [List.length_cons,List.length_nil]
 omega
theorem lns_script (os:List Nat) (h:os.length ≤ 30) (w:World) (hg:Gl w):Calls Tryz.prog 29 #[.string ⟨(lnsT os).toArray⟩] w fun e w'=>∃ (g g1 n n1 d:Nat) (x:Nd) (c:Value) (S:List Nat),e = .returned (.tuple #[.agg #[.int .i64 8,.string ⟨#[]⟩,.float .f64 0,.slice (some ⟨g,0,none⟩) 1 n,.int .i64 0],.int .i64 0,.int .i64 0]) ∧
  w'.cell? ⟨g,3,none⟩ = some (.slice (some ⟨g1,0,none⟩) 1 n1) ∧ w'.cell? ⟨g1,0,none⟩ = some (.int .i64 x.kind) ∧ w'.cell? ⟨g1,1,none⟩ = some (.string ⟨x.text.toArray⟩) ∧ w'.cell? ⟨g1,2,none⟩ = some (.float .f64 x.num) ∧ w'.cell? ⟨g1,3,none⟩ = some c ∧ w'.cell? ⟨g1,4,none⟩ = some (.int .i64 x.at') ∧
  1 ≤ n ∧ n ≤ maxLen ∧ 1 ≤ n1 ∧ n1 ≤ maxLen ∧ KV 61 w' d x.kids c S ∧ Lns os 0 x ∧ Below w.heap.size w w':=by
 have hms:=ms_start (lnsT os)
 obtain ⟨kf,s9,hr,-⟩:=stmts_ends (envOf (lnsT os)) 1600024 100002 [] st0 (by omega) (by omega)
 obtain ⟨hc,x,rfl,hx⟩:=script_lns os h rfl (by omega) (by omega) hr
 have hl:=hd_len os h
 have hl2:(lnsT os).length ≤ 1000:=by rw [← hd_lns,List.length_append,List.length_singleton];omega
 refine (pScript_any ⟨(lnsT os).toArray⟩ w ?_ hg.tab hg.mx 1600024 100002 _ s9 (by omega) (by omega) hr).mono ?_
 ·have e:(⟨(lnsT os).toArray⟩:ByteArray).size = (lnsT os).length:=rfl
  rw [e];unfold maxLen;omega
 ·intro e w' ht
  rw [TreeR,if_pos hc] at ht
  obtain ⟨a,n,S,rfl,⟨d,hk⟩,-,hb⟩:=ht
  have e1:∀ (k:Int) (t:List UInt8) (n:Nat) (ks:List Nd) (a:Int),(Nd.mk k t n ks a).kids = ks:=fun _ _ _ _ _=>rfl
  rw [e1] at hk
  obtain ⟨g,c,s1,rfl,-,h0,h1,h2,-,-,-,j3,-,hk1,-⟩:=hk.kid (i:=0) rfl
  rw [e1] at hk1
  obtain ⟨d,rfl⟩:∃ e,d = e + 1:=by
   cases d with
   | zero=>exact hk1.elim
   | succ d=>exact ⟨d,rfl⟩
  obtain ⟨a1,n1,rfl⟩:=hk1.slice
  obtain ⟨g1,c1,s2,rfl,-,h3,h4,h5,l0,l1,l2,l3,l4,hk2,-⟩:=hk1.kid (i:=0) rfl
  exact ⟨g,g1,n,n1,d,x,c1,s2,rfl,by simpa using j3,by simpa using l0,by simpa using l1,by simpa using l2,by simpa using l3,by simpa using l4,h1,h2,h4,h5,hk2,hx,hb⟩
end Go.Proofs.YtmfpmandkhiknaaGreatDoor.qar
namespace Go.Proofs.YtmfpmandkhiknaaGreatDoor.qar
open par
open Go.RowKit
open heap maps
open lex (Tk TRow TkAt run_store_float add0)
open many (envOf st0)
set_option maxRecDepth 100000
attribute [local go_sem] run_store_float
def PV (w:World) (v:Value) (P:List Int):Prop:=(v = .slice none 0 0 ∧ P = []) ∨ ∃ (a:Addr) (cp:Nat),v = .slice (some a) P.length cp ∧ P.length ≤ cp ∧ cp ≤ maxLen ∧ ∀ j x,P[j]? = some x → w.cell? (a.add j) = some (.int .i64 x) ∧ (Lit.int .i64 x).wf = true
def opN (x:Int):Nat:=(IntKind.u64.wrap x % 6).toNat
abbrev signsO:Obj:=.cells #[.string ⟨#[38]⟩,.string ⟨#[43]⟩,.string ⟨#[45]⟩,.string ⟨#[42]⟩,.string ⟨#[47]⟩,.string ⟨#[37]⟩] 9 (0,0)
theorem signs_at {w:World} {b j:Nat} (h:w.heap[b]? = some signsO) (hj:j < 6):w.cell? ⟨b,j,none⟩ = some (.string ⟨#[sg j]⟩):=by
 rw [blk_cell h]
 rcases (show j = 0 ∨ j = 1 ∨ j = 2 ∨ j = 3 ∨ j = 4 ∨ j = 5 by omega) with rfl | rfl | rfl | rfl | rfl | rfl <;> rfl
theorem castM {w:World} {b:Nat} {l l':List (Nm × Value)} (h:MapS w b l) (e:l = l'):MapS w b l':=e ▸ h
theorem PV.pick {w W:World} {a:Option Addr} {n c i:Nat} {x:Int} {P:List Int} (h:PV w (.slice a n c) P) (hi:P[i]? = some x) (hb:Below w.heap.size w W):n = P.length ∧ n ≤ c ∧ c ≤ maxLen ∧ ∃ A,a = some A ∧ W.cell? (A.add i) = some (.int .i64 x) ∧ A.block < W.heap.size ∧ (Lit.int .i64 x).wf = true:=by
 rcases h with ⟨-,rfl⟩ | ⟨A,cp,hv,h1,h2,h3⟩
 ·simp at hi
 ·cases hv
  obtain ⟨h4,h5⟩:=h3 i x hi
  have h6:=World.block_lt_of_cell? w _ h4
  have e:(A.add i).block = A.block:=by unfold Addr.add;split <;> rfl
  refine ⟨rfl,h1,h2,A,rfl,by rw [hb.cell h6];exact h4,?_,h5⟩
  rw [← e]
  exact Nat.lt_of_lt_of_le h6 hb.size
structure LI (w0:World) (v5:Value) (os:List Nat) (wr:World):Prop where
 row:SRow wr w0.heap.size v5 os
 bel:Below w0.heap.size w0 wr
set_option maxHeartbeats 4000000 in
theorem parseLeans_any (v:Value) (P:List Int) (w:World) (hp:PV w v P) (hg:Gl w):Calls Tryz.prog 9 #[v] w fun e w'=>e = .returned (.bool true) ∧ Below w.heap.size w w':=by
 have HG:=Lib.hid hg
 have HP:=Lib.hid hp
 have hlen:P.length ≤ 9223372036854775807:=by
  rcases hp with ⟨-,rfl⟩ | ⟨a,cp,-,h1,h2,-⟩
  ·simp
  ·unfold maxLen at h2;omega
 obtain ⟨av,cv,rfl⟩:∃ a c,v = .slice a P.length c:=by
  rcases hp with ⟨rfl,rfl⟩ | ⟨a,cp,rfl,-⟩
  ·exact ⟨none,0,rfl⟩
  ·exact ⟨_,_,rfl⟩
 clear hg hp
 go_enter Tryz.func9,Tryz.ntmps9
 go_wp2_with fail
 refine (awake_any w HG.out).mono ?_;rintro e w1 ⟨rfl,hb⟩
 have HB:=Lib.hid hb
 clear hb
 go_upto_region 4 with fail
 have HS:Hid ((w1.alloc signsO).heap[w1.heap.size]? = some signsO ∧ Below w.heap.size w (w1.alloc signsO)):=⟨blk_new _ _,HB.out.alloc HB.out.size _⟩
 change Code.wp _ _ _ _ (w1.alloc signsO)
 generalize w1.alloc signsO = wa at *
 generalize w1.heap.size = bs at *
 have HM:=Lib.hid (MapS.new wa)
 have HBm:Hid (Below wa.heap.size wa (wa.alloc (.map #[] 0))):=(Below.refl _ _).alloc (Nat.le_refl _) _
 have hmm := @run_makeMap_plain Tryz.prog
 go_upto_region 5 with (refine wpList_insert rfl rfl Tryz.underlying70 Tryz.underlying9 rfl rfl rfl HM.out (by kernel_rfl) ?_;intro w' hm' ht';clear HM;have HM:=Lib.hid hm';have hb':=HBm.out.trans (ht'.below HBm.out.size (by simp));clear HBm;have HBm:=Lib.hid hb';clear hm' ht' hb')
 have HM2:Hid (MapS w' wa.heap.size lvM):=castM HM.out (by kernel_rfl)
 have HS2:Hid (w'.heap[bs]? = some signsO ∧ Below w.heap.size w w'):=⟨blk_below HS.out.1 HBm.out,HS.out.2.trans (HBm.out.mono HS.out.2.size)⟩
 clear HM HBm hmm HS HB
 go_wp2_with fail
 obtain ⟨K,hK⟩:∃ K,min P.length 30 = K:=⟨_,rfl⟩
 go_loopg [5,6,7,8] K (fun kk v5 v6 v7 v8 wr=>∃ (i:Nat) (os:List Nat),v7 = .int .i64 i ∧ i + kk = K ∧ os = (P.take i).map opN ∧ v6 = .string ⟨(hdT os).toArray⟩ ∧ Hid (LI w' v5 os wr))
 case atStart=>exact ⟨0,[],rfl,by omega,by simp,rfl,SRow.nil _ _,Below.refl _ _⟩
 case round =>
  obtain ⟨i,os,rfl,hik,hos,rfl,HLI⟩:=hrel
  have hosl:os.length = i:=by rw [hos,List.length_map,List.length_take];omega
  have hos30:os.length ≤ 30:=by omega
  have HBW:=Lib.hid (HS2.out.2.trans (HLI.out.bel.mono HS2.out.2.size))
  have HMr:=Lib.hid (HM2.out.turned (S := []) (Turned.of_below HLI.out.bel) (by simp))
  obtain ⟨a5,c5,rfl⟩:=HLI.out.row.slice
  by_cases hlt:i < K
  ·cases gk with
   | zero=>omega
   | succ gk =>
   obtain ⟨x,hx⟩:∃ x,P[i]? = some x:=⟨_,List.getElem?_eq_getElem (by omega)⟩
   obtain ⟨-,hn1,hn2,A,rfl,hc,hA,-⟩:=HP.out.pick hx HBW.out
   unfold maxLen at hn2
   have hI:(i:Int) < (P.length:Int):=by omega
   have h30:(i:Int) < 30:=by omega
   obtain ⟨o,ho⟩:∃ o,opN x = o:=⟨_,rfl⟩
   have hw0:0 ≤ IntKind.u64.wrap x:=by unfold IntKind.wrap;simp [IntKind.bits,IntKind.signed];omega
   have hop:IntKind.u64.wrap x % 6 = (o:Int):=by rw [← ho];unfold opN;omega
   have ho6:o < 6:=by omega
   have hsg:=signs_at (blk_below HS2.out.1 HLI.out.bel) ho6
   have hsl:=blk_lt (blk_below HS2.out.1 HLI.out.bel)
   have HON:Hid (os ++ [o] = (P.take (i + 1)).map opN):=by
    unfold Hid
    rw [List.take_add_one,hx,List.map_append,← hos]
    simp [ho]
   obtain ⟨v2,w5,hrun,hrow,hbl⟩:=round_str w' wr _ os o HLI.out.row HLI.out.bel (by omega)
   have HRUN:=Lib.hid hrun
   have HLI2:Hid (LI w' v2 (os ++ [o]) w5):=⟨hrow,hbl⟩
   have HDC:Hid (∀ W,Calls Tryz.prog 23 #[.int .i64 ((i:Int) + 1)] W fun e w'=>e = .returned (.string ⟨(decL (os.length + 1)).toArray⟩) ∧ Below W.heap.size W w'):=fun W=>by
    have:=dec_any (i + 1) (by omega) W
    rw [hosl]
    exact this
   have hdl:=decL_len (os.length + 1) (by omega)
   have hhl:=hd_len os hos30
   have q1:(⟨(hdT os).toArray⟩:ByteArray) ++ ⟨#[32]⟩ = ⟨(hdT os ++ [32]).toArray⟩:=bapp _ [32]
   have q2:(⟨(hdT os ++ [32]).toArray⟩:ByteArray) ++ ⟨#[sg o]⟩ = ⟨((hdT os ++ [32]) ++ [sg o]).toArray⟩:=bapp _ [sg o]
   have q3:(⟨((hdT os ++ [32]) ++ [sg o]).toArray⟩:ByteArray) ++ ⟨#[32,118]⟩ = ⟨(((hdT os ++ [32]) ++ [sg o]) ++ [32,118]).toArray⟩:=bapp _ [32,118]
   have q4:(⟨(((hdT os ++ [32]) ++ [sg o]) ++ [32,118]).toArray⟩:ByteArray) ++ ⟨(decL (os.length + 1)).toArray⟩ = ⟨(hdT (os ++ [o])).toArray⟩:=by rw [← hd_snoc];exact bapp _ _
   have p1:(hdT os ++ [32]).length ≤ 500:=by simp;omega
   have p2:((hdT os ++ [32]) ++ [sg o]).length ≤ 500:=by simp;omega
   have p3:(((hdT os ++ [32]) ++ [sg o]) ++ [32,118]).length ≤ 500:=by simp;omega
   clear hrun hrow hbl hos hx ho HLI
   go_upto_region 11 with fail
   clear hop hw0 hsg hsl hc hA
   go_upto_region 12 with (at_builtin;refine reg.wpList_append rfl rfl rfl rfl rfl HRUN.out ?_)
   clear HRUN
   generalize (((hdT os ++ [32]) ++ [sg o]) ++ [32,118]) = r3 at *
   generalize ((hdT os ++ [32]) ++ [sg o]) = r2 at *
   generalize (hdT os ++ [32]) = r1 at *
   generalize decL (os.length + 1) = dl at *
   go_wp2_with (go_at_call 23;refine (HDC.out _).mono ?_;rintro e w6 ⟨rfl,hb6⟩)
   have HLI3:Hid (LI w' v2 (os ++ [o]) w6):=⟨HLI2.out.row.below hb6,HLI2.out.bel.trans (hb6.mono HLI2.out.bel.size)⟩
   go_roundg gk
   case rel=>exact ⟨i + 1,os ++ [o],by go_num,by omega,HON.out,rfl,HLI3.out⟩
   case measure=>omega
  ·generalize hv5:Value.slice a5 os.length c5 = v5 at *
   by_cases hPl:i < P.length
   ·have hI:(i:Int) < (P.length:Int):=by omega
    have h30:decide ((i:Int) < 30) = false:=decide_eq_false (by omega)
    have q1:(⟨(hdT os).toArray⟩:ByteArray) ++ ⟨#[59]⟩ = ⟨(lnsT os).toArray⟩:=by rw [← hd_lns];exact bapp _ [59]
    have hl1:=hd_len os hos30
    have HSC:=Lib.hid (lns_script os hos30 wr (HG.out.below HBW.out))
    go_upto_region 13 with fail
    generalize hdT os = ht at *
    generalize lnsT os = lt at *
    go_wp2_with fail
    refine HSC.out.mono ?_
    rintro e w6 ⟨g,g1,n,n1,d,x,c,S,rfl,j3,l0,l1,l2,l3,l4,k1,k2,k3,k4,hk,hx,hb⟩
    have hbx:=hb.alloc hb.size (.cells #[.int .i64 8,.string ⟨#[]⟩,.float .f64 0,.slice (some ⟨g,0,none⟩) 1 n,.int .i64 0] 61 (0,0))
    have HB6:=Lib.hid (HBW.out.trans (hbx.mono HBW.out.size))
    have hby:=(Below.refl w6.heap.size w6).alloc (Nat.le_refl _) (.cells #[.int .i64 8,.string ⟨#[]⟩,.float .f64 0,.slice (some ⟨g,0,none⟩) 1 n,.int .i64 0] 61 (0,0))
    have HL:=Lib.hid (leans_all hx (by omega) d c v5 S wa.heap.size _ (hk.below hby) ((HLI.out.row.ov.below hbx)) (HMr.out.turned (S := []) (Turned.of_below hbx) (by simp)))
    have hg1:=World.block_lt_of_cell? w6 ⟨g,3,none⟩ j3
    have hg2:=World.block_lt_of_cell? w6 ⟨g1,0,none⟩ l0
    have j3:=(hby.cell (p:=⟨g,3,none⟩) hg1).trans j3
    have l0:=(hby.cell (p:=⟨g1,0,none⟩) hg2).trans l0
    have l1:=(hby.cell (p:=⟨g1,1,none⟩) hg2).trans l1
    have l2:=(hby.cell (p:=⟨g1,2,none⟩) hg2).trans l2
    have l3:=(hby.cell (p:=⟨g1,3,none⟩) hg2).trans l3
    have l4:=(hby.cell (p:=⟨g1,4,none⟩) hg2).trans l4
    have hbn:=blk_new w6 (.cells #[.int .i64 8,.string ⟨#[]⟩,.float .f64 0,.slice (some ⟨g,0,none⟩) 1 n,.int .i64 0] 61 (0,0))
    unfold maxLen at k2 k4
    clear hb hbx hby hk hx HSC q1 hl1
    go_upto_region 14 with fail
    change Code.wp _ _ _ _ (w6.alloc (.cells #[.int .i64 8,.string ⟨#[]⟩,.float .f64 0,.slice (some ⟨g,0,none⟩) 1 n,.int .i64 0] 61 (0,0)))
    generalize w6.alloc _ = w7 at *
    generalize w6.heap.size = b6 at *
    have y0:=blk_cell (hbn) 0
    have y1:=blk_cell (hbn) 1
    have y2:=blk_cell (hbn) 2
    have y3:=blk_cell (hbn) 3
    have y4:=blk_cell (hbn) 4
    have yf0:=blk_free (hbn) 0
    have yf1:=blk_free (hbn) 1
    have yf2:=blk_free (hbn) 2
    have yf3:=blk_free (hbn) 3
    have yf4:=blk_free (hbn) 4
    have yl:=blk_lt (hbn)
    simp only [List.getElem?_toArray,List.getElem?_cons_zero,List.getElem?_cons_succ] at y0 y1 y2 y3 y4
    have hg1':=World.block_lt_of_cell? w7 ⟨g,3,none⟩ j3
    have hg2':=World.block_lt_of_cell? w7 ⟨g1,0,none⟩ l0
    clear hbn
    go_wp2_with (first | (go_at_call 14;refine (Num_any _ _).mono ?_;rintro e w' ⟨rfl,rfl⟩) | (go_at_call 30;refine HL.out.mono ?_;rintro e w8 ⟨rfl,hb8⟩))
    go_ret
    exact ⟨rfl,HB6.out.trans (hb8.mono HB6.out.size)⟩
   ·have hI:¬ (i:Int) < (P.length:Int):=by omega
    have q1:(⟨(hdT os).toArray⟩:ByteArray) ++ ⟨#[59]⟩ = ⟨(lnsT os).toArray⟩:=by rw [← hd_lns];exact bapp _ [59]
    have hl1:=hd_len os hos30
    have HSC:=Lib.hid (lns_script os hos30 wr (HG.out.below HBW.out))
    go_upto_region 13 with fail
    generalize hdT os = ht at *
    generalize lnsT os = lt at *
    go_wp2_with fail
    refine HSC.out.mono ?_
    rintro e w6 ⟨g,g1,n,n1,d,x,c,S,rfl,j3,l0,l1,l2,l3,l4,k1,k2,k3,k4,hk,hx,hb⟩
    have hbx:=hb.alloc hb.size (.cells #[.int .i64 8,.string ⟨#[]⟩,.float .f64 0,.slice (some ⟨g,0,none⟩) 1 n,.int .i64 0] 61 (0,0))
    have HB6:=Lib.hid (HBW.out.trans (hbx.mono HBW.out.size))
    have hby:=(Below.refl w6.heap.size w6).alloc (Nat.le_refl _) (.cells #[.int .i64 8,.string ⟨#[]⟩,.float .f64 0,.slice (some ⟨g,0,none⟩) 1 n,.int .i64 0] 61 (0,0))
    have HL:=Lib.hid (leans_all hx (by omega) d c v5 S wa.heap.size _ (hk.below hby) ((HLI.out.row.ov.below hbx)) (HMr.out.turned (S := []) (Turned.of_below hbx) (by simp)))
    have hg1:=World.block_lt_of_cell? w6 ⟨g,3,none⟩ j3
    have hg2:=World.block_lt_of_cell? w6 ⟨g1,0,none⟩ l0
    have j3:=(hby.cell (p:=⟨g,3,none⟩) hg1).trans j3
    have l0:=(hby.cell (p:=⟨g1,0,none⟩) hg2).trans l0
    have l1:=(hby.cell (p:=⟨g1,1,none⟩) hg2).trans l1
    have l2:=(hby.cell (p:=⟨g1,2,none⟩) hg2).trans l2
    have l3:=(hby.cell (p:=⟨g1,3,none⟩) hg2).trans l3
    have l4:=(hby.cell (p:=⟨g1,4,none⟩) hg2).trans l4
    have hbn:=blk_new w6 (.cells #[.int .i64 8,.string ⟨#[]⟩,.float .f64 0,.slice (some ⟨g,0,none⟩) 1 n,.int .i64 0] 61 (0,0))
    unfold maxLen at k2 k4
    clear hb hbx hby hk hx HSC q1 hl1
    go_upto_region 14 with fail
    change Code.wp _ _ _ _ (w6.alloc (.cells #[.int .i64 8,.string ⟨#[]⟩,.float .f64 0,.slice (some ⟨g,0,none⟩) 1 n,.int .i64 0] 61 (0,0)))
    generalize w6.alloc _ = w7 at *
    generalize w6.heap.size = b6 at *
    have y0:=blk_cell (hbn) 0
    have y1:=blk_cell (hbn) 1
    have y2:=blk_cell (hbn) 2
    have y3:=blk_cell (hbn) 3
    have y4:=blk_cell (hbn) 4
    have yf0:=blk_free (hbn) 0
    have yf1:=blk_free (hbn) 1
    have yf2:=blk_free (hbn) 2
    have yf3:=blk_free (hbn) 3
    have yf4:=blk_free (hbn) 4
    have yl:=blk_lt (hbn)
    simp only [List.getElem?_toArray,List.getElem?_cons_zero,List.getElem?_cons_succ] at y0 y1 y2 y3 y4
    have hg1':=World.block_lt_of_cell? w7 ⟨g,3,none⟩ j3
    have hg2':=World.block_lt_of_cell? w7 ⟨g1,0,none⟩ l0
    clear hbn
    go_wp2_with (first | (go_at_call 14;refine (Num_any _ _).mono ?_;rintro e w' ⟨rfl,rfl⟩) | (go_at_call 30;refine HL.out.mono ?_;rintro e w8 ⟨rfl,hb8⟩))
    go_ret
    exact ⟨rfl,HB6.out.trans (hb8.mono HB6.out.size)⟩
end Go.Proofs.YtmfpmandkhiknaaGreatDoor.qar
namespace Go.Proofs.YtmfpmandkhiknaaGreatDoor.qar
open Go.RowKit Go.ChangeShapes
theorem cells3:Tryz.prog.cellsOf 3 = 1:=by kernel_rfl
theorem picks_open {H:Type} {enc:TypeId × Value → H} {w:World} {base:Nat} {spare:Nat → Bool} {held:Bool} {fuel:Nat} {a:Option Addr} {n c:Nat} {x:DataW H × List MemPlace}
  (h:DataW.trod enc Tryz.prog w base spare held fuel 69 [.slice a n c] = some x):∃ P,PV w (.slice a n c) P:=by
 rcases open_ints Tryz.underlying69 Tryz.underlying3 cells3 h with ⟨hcs,-⟩ | ⟨b,len,cap,zs,hcs,-,hl,hm,hz,-,hcell,hwz⟩
 ·simp only [List.cons.injEq,and_true] at hcs
  exact ⟨[],.inl ⟨hcs,rfl⟩⟩
 ·simp only [List.cons.injEq,and_true] at hcs
  simp only [Value.slice.injEq] at hcs
  obtain ⟨rfl,rfl,rfl⟩:=hcs
  have hzl:n ≤ zs.length:=by rw [hz];split <;> omega
  have hlt:(zs.take n).length = n:=by rw [List.length_take,Nat.min_eq_left hzl]
  refine ⟨zs.take n,.inr ⟨b,c,by rw [hlt],by rw [hlt];exact hl,hm,fun j y hj => ?_⟩⟩
  have hjl:j < n:=by have:=(List.getElem?_eq_some_iff.1 hj).1;omega
  rw [List.getElem?_take_of_lt hjl] at hj
  have hc:=hcell j (by omega)
  rw [List.getD_eq_getElem?_getD,hj] at hc
  exact ⟨hc,hwz y (List.mem_of_getElem? hj)⟩
end Go.Proofs.YtmfpmandkhiknaaGreatDoor.qar
