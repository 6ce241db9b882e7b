/-
  Proved: what the document's Encode gives, and the program's small questions on entries. Conditions: as each theorem says.
  Proved: what the program's known, pathed, fault, May give. Conditions: as each theorem says.
  Proved: what the program's fault, May give. Conditions: as each theorem says.
-/
import Derived.Test.YtifhnpkapgaboaaGreatPj11
import Derived.Test.YtifhnpkapgaboaaGreatPj6
import Derived.Lib.IndexLaws
import Derived.StillTailTactics
set_option linter.unusedVariables false
set_option linter.unusedSimpArgs false
namespace Go.Proofs.YtifhnpkapgaboaaGreat.arch
open Go.RowKit Go.Shelf
open heap
open path (sv str_size cleanB cleanR belowB SRow partsL)
set_option maxRecDepth 100000
theorem moded_any (e:Ent) (w:World):Calls Tryz.prog 98 #[entV e] w fun r w'=>r = .returned (.bool (modeB e.kind e.mode)) ∧ Below w.heap.size w w':=by
 have HB:Hid (Below w.heap.size w (w.alloc (entO e))):=(Below.refl _ _).alloc (Nat.le_refl _) _
 obtain ⟨p,k,m,d⟩:=e
 simp only at HB ⊢
 by_cases k3:k = 3
 ·subst k3
  go_enter Tryz.func98,Tryz.ntmps98
  go_wp2_with fail
  go_ret
  exact ⟨rfl,HB.out⟩
 ·have b3:(k == 3) = false:=beq_eq_false_iff_ne.2 k3
  by_cases k4:k = 4
  ·subst k4
   clear k3 b3
   go_enter Tryz.func98,Tryz.ntmps98
   go_wp2_with fail
   go_ret
   exact ⟨rfl,HB.out⟩
  ·have b4:(k == 4) = false:=beq_eq_false_iff_ne.2 k4
   have HM:Hid (modeB k m = (decide (0 ≤ m) && decide (m ≤ 511))):=by unfold Hid modeB;rw [if_neg k3,if_neg k4]
   clear k3 k4
   by_cases h0:0 ≤ m
   ·have d0:decide (0 ≤ m) = true:=decide_eq_true h0
    rw [d0,Bool.true_and] at HM
    go_enter Tryz.func98,Tryz.ntmps98
    go_wp2_with fail
    go_ret
    exact ⟨by rw [HM.out];rfl,HB.out⟩
   ·have d0:decide (0 ≤ m) = false:=decide_eq_false h0
    rw [d0,Bool.false_and] at HM
    clear h0
    go_enter Tryz.func98,Tryz.ntmps98
    go_wp2_with fail
    go_ret
    exact ⟨by rw [HM.out];rfl,HB.out⟩
theorem sized_any (k:Int) (n:Nat) (w:World):Calls Tryz.prog 99 #[.int .i64 k,.int .i64 n] w fun r w'=>r = .returned (.bool (lenB k n)) ∧ w = w':=by
 by_cases k2:k = 2
 ·subst k2
  have HM:Hid (lenB 2 n = decide ((n:Int) ≤ 1024)):=by unfold Hid lenB;rw [if_pos rfl,decide_eq_decide];omega
  go_enter Tryz.func99,Tryz.ntmps99
  go_wp2_with fail
  go_ret
  exact ⟨by rw [HM.out];rfl,rfl⟩
 ·have b2:(k == 2) = false:=beq_eq_false_iff_ne.2 k2
  by_cases k3:k = 3
  ·subst k3
   clear k2 b2
   by_cases h0:1 ≤ n
   ·have d0:decide ((1:Int) ≤ (n:Int)) = true:=decide_eq_true (by omega)
    have HM:Hid (lenB 3 n = decide ((n:Int) ≤ 64)):=by
     unfold Hid lenB
     rw [if_neg (by decide),if_pos rfl,decide_eq_true h0,Bool.true_and,decide_eq_decide];omega
    clear h0
    go_enter Tryz.func99,Tryz.ntmps99
    go_wp2_with fail
    go_ret
    exact ⟨by rw [HM.out];rfl,rfl⟩
   ·have d0:decide ((1:Int) ≤ (n:Int)) = false:=decide_eq_false (by omega)
    have HM:Hid (lenB 3 n = false):=by
     unfold Hid lenB
     rw [if_neg (by decide),if_pos rfl,decide_eq_false h0,Bool.false_and]
    clear h0
    go_enter Tryz.func99,Tryz.ntmps99
    go_wp2_with fail
    go_ret
    exact ⟨by rw [HM.out];rfl,rfl⟩
  ·have b3:(k == 3) = false:=beq_eq_false_iff_ne.2 k3
   have HM:Hid (lenB k n = ((n:Int) == 0)):=by
    unfold Hid lenB
    rw [if_neg k2,if_neg k3,Bool.eq_iff_iff,beq_iff_eq,beq_iff_eq];omega
   clear k2 k3
   go_enter Tryz.func99,Tryz.ntmps99
   go_wp2_with fail
   go_ret
   exact ⟨by rw [HM.out];rfl,rfl⟩
theorem isNaN_any (a:List UInt8) (w:World):Calls Tryz.prog 140 #[sv a] w fun e w'=>e = .returned (.bool false) ∧ w = w':=by
 go_enter Tryz.func140,Tryz.ntmps140
 go_wp2
 go_ret
 exact ⟨rfl,rfl⟩
def cmpL (a b:List UInt8):Int:=if Op.bytesLess a b = true then -1 else if a = b then 0 else 1
theorem Compare_any (a b:List UInt8) (w:World):Calls Tryz.prog 131 #[sv a,sv b] w fun e w'=>e = .returned (.int .i64 (cmpL a b)) ∧ w = w':=by
 have HV:=Lib.hid (show cmpL a b = if Op.bytesLess a b = true then -1 else if a = b then 0 else 1 from rfl)
 generalize cmpL a b = r at *
 cases hl:Op.bytesLess a b with
 | true =>
  obtain rfl:r = -1:=by rw [HV.out,if_pos hl]
  go_enter Tryz.func131,Tryz.ntmps131
  go_wp2_with fail
  (with_reducible refine (isNaN_any _ _).mono ?_);rintro e w1 ⟨rfl,rfl⟩
  go_wp2_with fail
  (with_reducible refine (isNaN_any _ _).mono ?_);rintro e w1 ⟨rfl,rfl⟩
  go_wp2_with fail
  go_ret
  exact ⟨rfl,rfl⟩
 | false =>
  by_cases he:a = b
  ·obtain rfl:r = 0:=by rw [HV.out,if_neg (by simp [hl]),if_pos he]
   have h2:(a == b) = true:=by rw [beq_iff_eq];exact he
   clear he
   go_enter Tryz.func131,Tryz.ntmps131
   go_wp2_with fail
   (with_reducible refine (isNaN_any _ _).mono ?_);rintro e w1 ⟨rfl,rfl⟩
   go_wp2_with fail
   (with_reducible refine (isNaN_any _ _).mono ?_);rintro e w1 ⟨rfl,rfl⟩
   go_wp2_with fail
   go_ret
   exact ⟨rfl,rfl⟩
  ·obtain rfl:r = 1:=by rw [HV.out,if_neg (by simp [hl]),if_neg he]
   have h2:(a == b) = false:=by rw [beq_eq_false_iff_ne];exact he
   clear he
   go_enter Tryz.func131,Tryz.ntmps131
   go_wp2_with fail
   (with_reducible refine (isNaN_any _ _).mono ?_);rintro e w1 ⟨rfl,rfl⟩
   go_wp2_with fail
   (with_reducible refine (isNaN_any _ _).mono ?_);rintro e w1 ⟨rfl,rfl⟩
   go_wp2_with fail
   go_ret
   exact ⟨rfl,rfl⟩
theorem cmp_is:∀ (a b:Nm),cmpL a b = cmpT a b
 | [],[]=>rfl
 | [],_ :: _=>rfl
 | x :: a,[]=>by simp [cmpL,cmpT,Op.bytesLess]
 | x :: a,y :: b=>by
  have ih:=cmp_is a b
  by_cases h:x = y
  ·subst h
   rw [cmpT_cons,← ih]
   unfold cmpL
   simp [Op.bytesLess]
  ·rw [cmpT,if_neg h]
   unfold cmpL
   by_cases hl:x < y
   ·simp [Op.bytesLess,hl]
   ·simp [Op.bytesLess,hl,h]
theorem tCompare_any (a b:Nm) (w:World):Calls Tryz.prog 131 #[sv a,sv b] w fun e w'=>e = .returned (.int .i64 (cmpT a b)) ∧ w = w':=by
 rw [← cmp_is a b];exact Compare_any a b w
theorem cmpP_drop (ps qs:List Nm) (i:Nat) (p q:Nm) (h1:ps[i]? = some p) (h2:qs[i]? = some q):cmpP (ps.drop i) (qs.drop i) = if cmpT p q = 0 then cmpP (ps.drop (i + 1)) (qs.drop (i + 1)) else cmpT p q:=by
 obtain ⟨l1,rfl⟩:=List.getElem?_eq_some_iff.1 h1
 obtain ⟨l2,rfl⟩:=List.getElem?_eq_some_iff.1 h2
 rw [List.drop_eq_getElem_cons l1,List.drop_eq_getElem_cons l2,cmpP]
theorem cmpP_more (ps qs:List Nm) (i:Nat) (h1:i < ps.length) (h2:qs.length ≤ i):cmpP (ps.drop i) (qs.drop i) = 1:=by
 rw [List.drop_eq_getElem_cons h1,List.drop_eq_nil_of_le h2];rfl
theorem cmpP_end (ps qs:List Nm) (i:Nat) (h1:ps.length ≤ i):cmpP (ps.drop i) (qs.drop i) = if i < qs.length then -1 else 0:=by
 rw [List.drop_eq_nil_of_le h1]
 by_cases h:i < qs.length
 ·rw [List.drop_eq_getElem_cons h,if_pos h];rfl
 ·rw [List.drop_eq_nil_of_le (by omega),if_neg h];rfl
set_option maxHeartbeats 1000000 in
theorem sCompare_any (ps qs:List Nm) (v1 v2:Value) (b1 b2:Nat) (w:World) (h1:SRow w b1 v1 ps) (h2:SRow w b2 v2 qs) :
  Calls Tryz.prog 117 #[v1,v2] w fun e w'=>e = .returned (.int .i64 (cmpP ps qs)) ∧ w = w':=by
 have c1:=path.SRow.cells h1
 have c2:=path.SRow.cells h2
 obtain ⟨a1,n1,rfl⟩:∃ a n,v1 = .slice a ps.length n:=by
  rcases c1 with ⟨e1,e2⟩ | ⟨g,c,e1,-⟩
  ·exact ⟨none,0,by rw [e1,e2];rfl⟩
  ·exact ⟨_,_,e1⟩
 obtain ⟨a2,n2,rfl⟩:∃ a n,v2 = .slice a qs.length n:=by
  rcases c2 with ⟨e1,e2⟩ | ⟨g,c,e1,-⟩
  ·exact ⟨none,0,by rw [e1,e2];rfl⟩
  ·exact ⟨_,_,e1⟩
 have C1:=Lib.hid c1
 have C2:=Lib.hid c2
 clear c1 c2 h1 h2
 go_enter Tryz.func117,Tryz.ntmps117
 go_wp2_with fail
 go_loopg [11] ps.length (fun kk v11 wr=>∃ i:Nat,i + kk = ps.length ∧ i ≤ qs.length ∧ v11 = .int .i64 i ∧ Hid (cmpP ps qs = cmpP (ps.drop i) (qs.drop i)) ∧ w = wr)
 case atStart=>exact ⟨0,by omega,by omega,rfl,rfl,rfl⟩
 case round =>
  obtain ⟨i,hik,hiq,rfl,HP,rfl⟩:=hrel
  by_cases hlt:i < ps.length
  ·cases gk with
   | zero=>omega
   | succ gk =>
   obtain ⟨p,hp⟩:∃ p,ps[i]? = some p:=⟨_,List.getElem?_eq_getElem hlt⟩
   rcases C1.out with ⟨-,h0⟩ | ⟨g,c,e1,hg,hc1,hc2,hcl⟩
   ·rw [h0] at hlt;exact absurd hlt (by simp)
   cases e1
   have x0:=hcl i p hp
   unfold maxLen at hc2
   have hii:(i:Int) < (ps.length:Int):=by omega
   clear hcl
   by_cases h2:i < qs.length
   ·obtain ⟨q,hq⟩:∃ q,qs[i]? = some q:=⟨_,List.getElem?_eq_getElem h2⟩
    rcases C2.out with ⟨-,h0⟩ | ⟨g2,c2,e2,hg2,hd1,hd2,hcl2⟩
    ·rw [h0] at h2;exact absurd h2 (by simp)
    cases e2
    have y0:=hcl2 i q hq
    unfold maxLen at hd2
    have d1:decide ((qs.length:Int) ≤ (i:Int)) = false:=decide_eq_false (by omega)
    have hqq:(i:Int) < (qs.length:Int):=by omega
    have HD:=Lib.hid (HP.out.trans (cmpP_drop ps qs i p q hp hq))
    clear hcl2 hp hq HP
    go_wp2_with fail
    refine (tCompare_any p q _).mono ?_;rintro e w' ⟨rfl,rfl⟩
    by_cases h0:cmpT p q = 0
    ·rw [h0,if_pos rfl] at HD
     rw [h0]
     clear h0
     go_wp2_with fail
     go_roundg gk
     case rel=>exact ⟨i + 1,by omega,by omega,by go_num,HD,rfl⟩
     case measure=>omega
    ·rw [if_neg h0] at HD
     have hb:(cmpT p q != 0) = true:=by simp [bne,h0]
     clear h0
     go_wp2_with fail
     go_ret
     exact ⟨by rw [HD.out];rfl,rfl⟩
   ·have d1:decide ((qs.length:Int) ≤ (i:Int)) = true:=decide_eq_true (by omega)
    have HD:=Lib.hid (HP.out.trans (cmpP_more ps qs i hlt (by omega)))
    clear HP hp
    go_wp2_with fail
    go_ret
    exact ⟨by rw [HD.out];rfl,rfl⟩
  ·have hi2:i = ps.length:=by omega
   subst hi2
   have HD:=Lib.hid (HP.out.trans (cmpP_end ps qs ps.length (Nat.le_refl _)))
   clear HP
   by_cases h2:ps.length < qs.length
   ·have d1:decide ((ps.length:Int) < (qs.length:Int)) = true:=decide_eq_true (by omega)
    rw [if_pos h2] at HD
    go_wp2_with fail
    go_ret
    exact ⟨by rw [HD.out];rfl,rfl⟩
   ·have d1:decide ((ps.length:Int) < (qs.length:Int)) = false:=decide_eq_false (by omega)
    rw [if_neg h2] at HD
    go_wp2_with fail
    go_ret
    exact ⟨by rw [HD.out];rfl,rfl⟩
theorem eCompare_any (a b:Nm) (w:World) (ha:a.length ≤ 8796093022206) (hb:b.length ≤ 8796093022206) :
  Calls Tryz.prog 90 #[sv a,sv b] w fun e w'=>e = .returned (.int .i64 (cmpE a b)) ∧ Below w.heap.size w w':=by
 have H1:=Lib.hid (fun W=>path.Parts_any a W ha)
 have H2:=Lib.hid (fun W=>path.Parts_any b W hb)
 go_enter Tryz.func90,Tryz.ntmps90
 go_wp2_with fail
 refine (H1.out _).mono ?_;rintro e w1 ⟨v1,rfl,hr1,hb1⟩
 have R1:=Lib.hid hr1
 have B1:=Lib.hid hb1
 clear hr1 hb1 H1
 go_wp2_with fail
 refine (H2.out _).mono ?_;rintro e w2 ⟨v2,rfl,hr2,hb2⟩
 have R2:=Lib.hid hr2
 have R1':=Lib.hid (R1.out.below hb2)
 have B2:Hid (Below w.heap.size w w2):=B1.out.trans (hb2.mono B1.out.size)
 clear hr2 hb2 H2 R1 B1
 go_wp2_with fail
 refine (sCompare_any (partsL a) (partsL b) v1 v2 _ _ _ R1'.out R2.out).mono ?_;rintro e w' ⟨rfl,rfl⟩
 go_wp2_with fail
 go_ret
 exact ⟨rfl,B2.out⟩
end Go.Proofs.YtifhnpkapgaboaaGreat.arch
namespace Go.Proofs.YtifhnpkapgaboaaGreat.arch
open Go.RowKit
open heap
open path (sv str_size cleanB cleanR belowB)
set_option maxRecDepth 100000
theorem index_mem (l:Nm) (c:UInt8):decide (0 ≤ Lib.indexByte l c) = decide (c ∈ l):=by
 rw [decide_eq_decide]
 constructor
 ·intro h
  obtain ⟨o,ho⟩:=Int.eq_ofNat_of_zero_le h
  exact List.mem_of_getElem? (Lib.indexByte_some ho).1
 ·intro h
  obtain ⟨k,hk⟩:=List.getElem?_of_mem h
  have h1:=Lib.indexByte_ge l c
  refine Classical.byContradiction fun h2 => ?_
  exact Lib.indexByte_none (show Lib.indexByte l c = -1 by omega) k hk
theorem known_any (k:Int) (w:World):Calls Tryz.prog 83 #[.int .i64 k] w fun r w'=>r = .returned (.bool (decide (1 ≤ k) && decide (k ≤ 5))) ∧ w = w':=by
 by_cases h1:1 ≤ k
 ·have d1:decide (1 ≤ k) = true:=decide_eq_true h1
  rw [d1,Bool.true_and]
  go_enter Tryz.func83,Tryz.ntmps83
  go_wp2_with fail
  go_ret
  exact ⟨rfl,rfl⟩
 ·have d1:decide (1 ≤ k) = false:=decide_eq_false h1
  rw [d1,Bool.false_and]
  clear h1
  go_enter Tryz.func83,Tryz.ntmps83
  go_wp2_with fail
  go_ret
  exact ⟨rfl,rfl⟩
theorem drop_any (es:List Ent) (i:Nat) (x:Ent) (f:Ent → Bool) (h:es[i]? = some x):(es.drop i).any f = (f x || (es.drop (i + 1)).any f):=by
 obtain ⟨l1,rfl⟩:=List.getElem?_eq_some_iff.1 h
 rw [List.drop_eq_getElem_cons l1,List.any_cons]
set_option maxHeartbeats 4000000 in
theorem pathed_any (es:List Ent) (e:Ent) (A:Option Addr) (b o c:Nat) (w:World) (hA:es ≠ [] → A = some ⟨b,o,none⟩) (h:EAt w b o es) (hc:es.length ≤ c) (hcm:c ≤ 9223372036854775807) (hp:∀ x ∈ es,x.path.length ≤ 2000000) (he:e.path.length ≤ 2000000) :
  Calls Tryz.prog 97 #[entV e,.slice A es.length c] w fun r w'=>r = .returned (.int .i64 (pathE es e)) ∧ Below w.heap.size w w':=by
 have HB:Hid (Below w.heap.size w (w.alloc (entO e))):=(Below.refl _ _).alloc (Nat.le_refl _) _
 have HBX:=Lib.hid (blk_new w (entO e))
 have HCL:=Lib.hid (fun W=>path.Clean_any [] (47 :: e.path) W (by simp) (by simp;omega))
 have HI:=Lib.hid (path.clean_parts e.path)
 have HIF:=Lib.hid (clean_iff e.path)
 have HE:=Lib.hid h
 have HP:=Lib.hid hp
 have HEL:=Lib.hid he
 have zp:=str_size e.path
 have HAD:Hid ((⟨#[47]⟩:ByteArray) ++ ⟨e.path.toArray⟩ = ⟨(47 :: e.path).toArray⟩):=by
  unfold Hid
  rw [show (⟨#[47]⟩:ByteArray) = ⟨([47]:List UInt8).toArray⟩ from rfl,app_str];rfl
 clear h hp
 go_enter Tryz.func97,Tryz.ntmps97
 go_wp2_with fail
 rw [HAD.out]
 refine (HCL.out _).mono ?_;rintro r w1 ⟨rfl,hb⟩
 have HBX1:=Lib.hid (blk_below HBX.out hb)
 have HB1:Hid (Below w.heap.size w w1):=HB.out.trans (hb.mono HB.out.size)
 clear hb HBX HB HCL HAD zp
 obtain ⟨cs,cc,hcr⟩:∃ cs cc,cleanR [] (47 :: e.path) = (cs,cc):=⟨_,_,rfl⟩
 rw [hcr] at HIF ⊢
 simp only at HIF ⊢
 clear hcr
 have p0:=blk_cell (HBX1.out) 0
 have p1:=blk_cell (HBX1.out) 1
 have p2:=blk_cell (HBX1.out) 2
 have p3:=blk_cell (HBX1.out) 3
 have pl:=blk_lt (HBX1.out)
 simp only [List.getElem?_toArray,List.getElem?_cons_zero,List.getElem?_cons_succ] at p0 p1 p2 p3
 by_cases hgood:cc = 0 ∧ e.path ≠ [] ∧ cs = e.path
 ·obtain ⟨rfl,hp0,rfl⟩:=hgood
  have HPE:Hid (pathE es e = aheadF es e):=by
   have:=HIF.out.1 ⟨rfl,hp0,rfl⟩
   unfold Hid
   rw [pathE_eq,if_neg (fun h=>h.elim this.1 (by rw [this.2];decide))]
  have b0:e.path.isEmpty = false:=by cases hh:e.path with
   | nil=>exact absurd hh hp0
   | cons a l=>rfl
  have b0':(e.path == []) = false:=beq_eq_false_iff_ne.2 hp0
  clear HIF hp0
  go_upto_region 4 with fail
  clear b0 b0'
  by_cases hes:es = []
  ·subst hes
   have HF:Hid (pathE [] e = 0):=by unfold Hid;rw [HPE.out];rfl
   clear HPE
   go_quiet (fail)
   go_wp2_with fail
   go_loopg [7] 0 (fun kk v7 wr=>v7 = .int .i64 (-1) ∧ Hid (Below w.heap.size w wr))
   case atStart=>exact ⟨by go_num,below_drewN HB1.out _⟩
   case round =>
    obtain ⟨rfl,HBr⟩:=hrel
    go_wp2_with fail
    go_ret
    exact ⟨by rw [HF.out];rfl,HBr.out⟩
  ·obtain rfl:=hA hes
   clear hA
   obtain ⟨m,hm⟩:∃ m,es.length = m + 1:=⟨es.length - 1,by have:=List.length_pos_iff.2 hes;omega⟩
   have hl:es[m]? = some es[m]:=List.getElem?_eq_getElem (by omega)
   have HLP:Hid (lastP es = es[m].path):=by
    unfold Hid lastP
    rw [List.getLast?_eq_getElem?,show es.length - 1 = m by omega,hl];rfl
   generalize es[m] = y at hl HLP
   have hyl:=HP.out y (List.mem_of_getElem? hl)
   have HE1:=Lib.hid (HE.out.below HB1.out)
   obtain ⟨y0,-,-,-⟩:=HE1.out m y hl
   have HCE:=Lib.hid (fun W=>eCompare_any y.path e.path W (by omega) (by have:=HEL.out;omega))
   have HGE:=Lib.hid (cmp_less y.path e.path)
   have HNE:=Lib.hid hes
   have HM:=Lib.hid hm
   clear hl hes
   rw [hm]
   rw [hm] at hc
   clear hm
   have hd0:decide ((0:Int) < (m:Int) + 1) = true:=decide_eq_true (by omega)
   have hmw:IntKind.i64.wrap (m:Int) = (m:Int):=IntWalk.i64_in _ (by omega)
   have hmi:(m:Int) < (m:Int) + 1:=by omega
   go_still_tail 13,(by kernel_rfl)
   change wpList _ _ _ _ _ w1.drew
   go_wp2_with fail
   refine (HCE.out _).mono ?_;rintro r w2 ⟨rfl,hb⟩
   have HB2:Hid (Below w.heap.size w w2):=HB1.out.drew.trans (hb.mono HB1.out.size)
   have HBX2:=Lib.hid (blk_below HBX1.out ((Below.refl _ _).drew.trans hb))
   clear p0 p1 p2 p3 pl
   clear hb HCE y0 hd0 HBX1 HB1 HE1
   cases hL:lessB y.path e.path with
   | false =>
    have HF:Hid (pathE es e = 1304):=by
     have h1:=HPE.out
     unfold aheadF at h1
     unfold Hid
     rw [h1,if_pos ⟨HNE.out,by rw [HLP.out];exact hL⟩]
    have hge:decide (0 ≤ cmpE y.path e.path) = true:=by rw [HGE.out,hL];rfl
    clear hL
    go_wp2_with fail
    go_ret
    exact ⟨by rw [HF.out];rfl,HB2.out⟩
   | true =>
    have HF:Hid (pathE es e = if es.any (parB e) then 1305 else 0):=by
     have h1:=HPE.out
     unfold aheadF at h1
     unfold Hid
     rw [h1,if_neg (fun h=>by rw [HLP.out,hL] at h;exact absurd h.2 (by decide))]
    have hge:decide (0 ≤ cmpE y.path e.path) = false:=by rw [HGE.out,hL];rfl
    clear hL
    go_wp2_with fail
    go_loopg [7] (m + 1) (fun kk v7 wr=>∃ j:Nat,j = kk ∧ j ≤ m + 1 ∧ v7 = .int .i64 ((j:Int) - 1) ∧ Hid ((es.drop j).any (parB e) = false) ∧ Hid (Below w2.heap.size w2 wr))
    case atStart=>exact ⟨m + 1,rfl,Nat.le_refl _,by go_num,by unfold Hid;rw [List.drop_eq_nil_of_le (by have:=HM.out;omega)];rfl,Below.refl _ _⟩
    case round =>
     obtain ⟨j,hjk,hjm,rfl,HA,HW⟩:=hrel
     have HBw:Hid (Below w.heap.size w wr):=HB2.out.trans (HW.out.mono HB2.out.size)
     have HBX3:=Lib.hid (blk_below HBX2.out HW.out)
     cases j with
     | zero =>
      have HF2:Hid (pathE es e = 0):=by
       unfold Hid
       rw [HF.out,show es.any (parB e) = false from HA.out];rfl
      have d1:decide ((0:Int) ≤ ((0:Nat):Int) - 1) = false:=by decide
      go_wp2_with fail
      go_ret
      exact ⟨by rw [HF2.out];rfl,HBw.out⟩
     | succ i =>
      rw [show ((i + 1:Nat):Int) - 1 = (i:Int) by omega]
      cases gk with
      | zero=>omega
      | succ gk =>
      have hil:i < es.length:=by have:=HM.out;omega
      obtain ⟨x,hx⟩:∃ x,es[i]? = some x:=⟨_,List.getElem?_eq_getElem hil⟩
      clear hil
      have hxl:=HP.out x (List.mem_of_getElem? hx)
      obtain ⟨x0,x1,x2,x3⟩:=(HE.out.below HBw.out) i x hx
      have HS:=Lib.hid (drop_any es i x (parB e) hx)
      have HH:=Lib.hid (any_hit es i x (parB e) hx)
      have hii:(i:Int) < (m:Int) + 1:=by omega
      have hi0:decide ((0:Int) ≤ (i:Int)) = true:=decide_eq_true (by omega)
      have HNEW:=Lib.hid (blk_new wr (entO x))
      have HBA:Hid (Below wr.heap.size wr (wr.alloc (entO x))):=(Below.refl _ _).alloc (Nat.le_refl _) _
      have HW4:Hid (Below w2.heap.size w2 (wr.alloc (entO x))):=HW.out.trans (HBA.out.mono HW.out.size)
      have HBw4:Hid (Below w.heap.size w (wr.alloc (entO x))):=HBw.out.trans (HBA.out.mono HBw.out.size)
      have HBX4:=Lib.hid (blk_below HBX3.out HBA.out)
      clear hx
      go_upto_region 10 with fail
      change Code.wp _ _ _ _ (wr.alloc (entO x))
      generalize (wr.alloc (entO x)) = w4 at *
      generalize wr.heap.size = b8 at *
      clear x0 x1 x2 x3
      have p0:=blk_cell (HBX4.out) 0
      have p1:=blk_cell (HBX4.out) 1
      have p2:=blk_cell (HBX4.out) 2
      have p3:=blk_cell (HBX4.out) 3
      have pl:=blk_lt (HBX4.out)
      simp only [List.getElem?_toArray,List.getElem?_cons_zero,List.getElem?_cons_succ] at p0 p1 p2 p3
      have q0:=blk_cell (HNEW.out) 0
      have q1:=blk_cell (HNEW.out) 1
      have q2:=blk_cell (HNEW.out) 2
      have q3:=blk_cell (HNEW.out) 3
      have ql:=blk_lt (HNEW.out)
      simp only [List.getElem?_toArray,List.getElem?_cons_zero,List.getElem?_cons_succ] at q0 q1 q2 q3
      by_cases k1:x.kind = 1
      ·have b1':(x.kind == 1) = true:=by simp [k1]
       have c1':(x.kind != 1) = false:=by simp [k1]
       have HA2:Hid ((es.drop i).any (parB e) = false):=by
        unfold Hid;rw [HS.out,HA.out];unfold parB
        rw [show (x.kind != 1) = false by simp [k1]];rfl
       clear HS HH k1
       go_wp2_with fail
       go_roundg gk
       case rel=>exact ⟨i,by omega,by omega,by go_num,HA2,HW4⟩
       case measure=>omega
      ·have b1':(x.kind == 1) = false:=beq_eq_false_iff_ne.2 k1
       have c1':(x.kind != 1) = true:=by simp [bne,k1]
       by_cases k5:x.kind = 5
       ·have b5':(x.kind == 5) = true:=by simp [k5]
        have c5':(x.kind != 5) = false:=by simp [k5]
        have HA2:Hid ((es.drop i).any (parB e) = false):=by
         unfold Hid;rw [HS.out,HA.out];unfold parB
         rw [show (x.kind != 5) = false by simp [k5],Bool.and_false];rfl
        clear HS HH k1 k5
        go_wp2_with fail
        go_roundg gk
        case rel=>exact ⟨i,by omega,by omega,by go_num,HA2,HW4⟩
        case measure=>omega
       ·have b5':(x.kind == 5) = false:=beq_eq_false_iff_ne.2 k5
        have c5':(x.kind != 5) = true:=by simp [bne,k5]
        have hpb:parB e x = belowB e.path x.path:=by
         unfold parB
         rw [show (x.kind != 1) = true by simp [bne,k1],show (x.kind != 5) = true by simp [bne,k5]];rfl
        rw [hpb] at HS HH
        clear k1 k5 hpb
        go_wp2_with fail
        refine (path.Below_any e.path x.path _ (by omega)).mono ?_;rintro r w5 ⟨rfl,hb⟩
        have HW5:Hid (Below w2.heap.size w2 w5):=HW4.out.trans (hb.mono HW4.out.size)
        have HBw5:Hid (Below w.heap.size w w5):=HBw4.out.trans (hb.mono HBw4.out.size)
        clear hb
        cases hbb:belowB e.path x.path with
        | false =>
         rw [hbb] at HS
         have HA2:Hid ((es.drop i).any (parB e) = false):=by unfold Hid;rw [HS.out,HA.out];rfl
         clear HS HH hbb
         go_wp2_with fail
         go_roundg gk
         case rel=>exact ⟨i,by omega,by omega,by go_num,HA2,HW5⟩
         case measure=>omega
        | true =>
         have HF2:Hid (pathE es e = 1305):=by unfold Hid;rw [HF.out,HH.out hbb];rfl
         clear HS HH hbb
         go_wp2_with fail
         go_ret
         exact ⟨by rw [HF2.out];rfl,HBw5.out⟩
 ·have HPE:Hid (pathE es e = 1303):=by
   have:¬ (e.path ≠ [] ∧ cleanB e.path = true):=fun h=>hgood (HIF.out.2 h)
   unfold Hid
   rw [pathE_eq,if_pos]
   by_cases h0:e.path = []
   ·exact .inl h0
   ·cases hcb:cleanB e.path with
    | false=>exact .inr rfl
    | true=>exact absurd ⟨h0,hcb⟩ this
  clear HIF
  by_cases h1:cc = 0
  ·subst h1
   by_cases h2:e.path = []
   ·have b0:e.path.isEmpty = true:=by rw [h2];rfl
    clear hgood h2
    go_wp2_with fail
    go_ret
    exact ⟨by rw [HPE.out];rfl,HB1.out⟩
   ·have h3:cs ≠ e.path:=fun e1=>hgood ⟨rfl,h2,e1⟩
    have b0:e.path.isEmpty = false:=by cases hh:e.path with
     | nil=>exact absurd hh h2
     | cons a l=>rfl
    have b0':(e.path == []) = false:=beq_eq_false_iff_ne.2 h2
    have b1:(cs == e.path) = false:=beq_eq_false_iff_ne.2 h3
    clear hgood h2 h3
    go_wp2_with fail
    go_ret
    exact ⟨by rw [HPE.out];rfl,HB1.out⟩
  ·have hb:(cc != 0) = true:=by simp [bne,h1]
   clear h1 hgood
   go_wp2_with fail
   go_ret
   exact ⟨by rw [HPE.out];rfl,HB1.out⟩
set_option maxHeartbeats 2000000 in
theorem fault_any (es:List Ent) (e:Ent) (b o c:Nat) (w:World) (h:EAt w b o es) (hc:es.length ≤ c) (hcm:c ≤ 9223372036854775807) (hp:∀ x ∈ es,small x) (he:small e) :
  Calls Tryz.prog 65 #[entV e,.slice (some ⟨b,o,none⟩) es.length c] w fun r w'=>r = .returned (.int .i64 (entF es e)) ∧ Below w.heap.size w w':=by
 have HB:Hid (Below w.heap.size w (w.alloc (entO e))):=(Below.refl _ _).alloc (Nat.le_refl _) _
 have HBX:=Lib.hid (blk_new w (entO e))
 have HPA:=Lib.hid (fun W (hW:Below w.heap.size w W)=>pathed_any es e (some ⟨b,o,none⟩) b o c W (fun _=>rfl) (h.below hW) hc hcm (fun x hx=>(hp x hx).1) he.1)
 have hdl:=he.2
 clear h hc hcm hp he
 go_enter Tryz.func65,Tryz.ntmps65
 go_wp2_with fail
 refine (known_any e.kind _).mono ?_;rintro r w' ⟨rfl,rfl⟩
 by_cases hk:e.kind < 1 ∨ 5 < e.kind
 ·have HF:Hid (entF es e = 1302):=by unfold Hid entF;rw [if_pos hk]
  have hkb:(decide (1 ≤ e.kind) && decide (e.kind ≤ 5)) = false:=by
   rcases hk with h | h
   ·rw [decide_eq_false (show ¬ 1 ≤ e.kind by omega)];rfl
   ·rw [decide_eq_false (show ¬ e.kind ≤ 5 by omega),Bool.and_false]
  rw [hkb]
  clear hk hkb
  go_wp2_with fail
  go_ret
  exact ⟨by rw [HF.out];rfl,HB.out⟩
 have hkb:(decide (1 ≤ e.kind) && decide (e.kind ≤ 5)) = true:=by
  rw [decide_eq_true (show 1 ≤ e.kind by omega),decide_eq_true (show e.kind ≤ 5 by omega)];rfl
 have HF1:Hid (entF es e = if pathE es e ≠ 0 then pathE es e else if modeB e.kind e.mode = false then 1306 else if lenB e.kind e.data.length = false then 1307 else if e.kind = 3 ∧ (0:UInt8) ∈ e.data then 1308 else 0):=by
  unfold Hid entF;rw [if_neg hk]
 rw [hkb]
 clear hk hkb
 go_wp2_with fail
 refine (HPA.out _ HB.out).mono ?_;rintro r w2 ⟨rfl,hb⟩
 have HBX2:=Lib.hid (blk_below HBX.out hb)
 have HB2:Hid (Below w.heap.size w w2):=HB.out.trans (hb.mono HB.out.size)
 clear hb HBX HB HPA
 by_cases ha:pathE es e = 0
 ·rw [ha] at HF1 ⊢
  rw [if_neg (by simp)] at HF1
  clear ha
  have p0:=blk_cell (HBX2.out) 0
  have p1:=blk_cell (HBX2.out) 1
  have p2:=blk_cell (HBX2.out) 2
  have p3:=blk_cell (HBX2.out) 3
  have pl:=blk_lt (HBX2.out)
  simp only [List.getElem?_toArray,List.getElem?_cons_zero,List.getElem?_cons_succ] at p0 p1 p2 p3
  go_wp2_with fail
  refine (moded_any e _).mono ?_;rintro r w3 ⟨rfl,hb⟩
  have HBX3:=Lib.hid (blk_below HBX2.out hb)
  have HB3:Hid (Below w.heap.size w w3):=HB2.out.trans (hb.mono HB2.out.size)
  clear p0 p1 p2 p3 pl
  clear hb HBX2 HB2
  cases hm:modeB e.kind e.mode with
  | false =>
   rw [hm,if_pos rfl] at HF1
   clear hm
   go_wp2_with fail
   go_ret
   exact ⟨by rw [HF1.out];rfl,HB3.out⟩
  | true =>
   rw [hm,if_neg (by decide)] at HF1
   clear hm
   have p0:=blk_cell (HBX3.out) 0
   have p1:=blk_cell (HBX3.out) 1
   have p2:=blk_cell (HBX3.out) 2
   have p3:=blk_cell (HBX3.out) 3
   have pl:=blk_lt (HBX3.out)
   simp only [List.getElem?_toArray,List.getElem?_cons_zero,List.getElem?_cons_succ] at p0 p1 p2 p3
   go_wp2_with fail
   refine (sized_any e.kind e.data.length _).mono ?_;rintro r w' ⟨rfl,rfl⟩
   cases hl:lenB e.kind e.data.length with
   | false =>
    rw [hl,if_pos rfl] at HF1
    clear hl
    go_wp2_with fail
    go_ret
    exact ⟨by rw [HF1.out];rfl,HB3.out⟩
   | true =>
    rw [hl,if_neg (by decide)] at HF1
    clear hl
    by_cases k3:e.kind = 3
    ·have b3:(e.kind == 3) = true:=by simp [k3]
     go_wp2_with fail
     refine (Tryz.strings_Contains_one ⟨e.data.toArray⟩ 0 _).mono ?_;rintro r w' ⟨rfl,rfl⟩
     rw [show (⟨e.data.toArray⟩:ByteArray).data.toList = e.data from rfl,index_mem]
     by_cases hz:(0:UInt8) ∈ e.data
     ·rw [if_pos ⟨k3,hz⟩] at HF1
      rw [decide_eq_true hz]
      clear k3 hz
      go_wp2_with fail
      go_ret
      exact ⟨by rw [HF1.out];rfl,HB3.out⟩
     ·rw [if_neg (fun h=>hz h.2)] at HF1
      rw [decide_eq_false hz]
      clear k3 hz
      go_wp2_with fail
      go_ret
      exact ⟨by rw [HF1.out];rfl,HB3.out⟩
    ·have b3:(e.kind == 3) = false:=beq_eq_false_iff_ne.2 k3
     rw [if_neg (fun h=>k3 h.1)] at HF1
     clear k3
     go_wp2_with fail
     go_ret
     exact ⟨by rw [HF1.out];rfl,HB3.out⟩
 ·have hab:(pathE es e != 0) = true:=by simp [bne,ha]
  rw [if_pos ha] at HF1
  clear ha
  go_wp2_with fail
  go_ret
  exact ⟨by rw [HF1.out];rfl,HB2.out⟩
set_option maxHeartbeats 2000000 in
theorem May_any (es:List Ent) (b o c:Nat) (w:World) (h:EAt w b o es) (hc:es.length ≤ c) (hcm:c ≤ 9223372036854775807) (hp:∀ x ∈ es,small x) :
  Calls Tryz.prog 27 #[layV b o es.length c] w fun r w'=>r = .returned (.tuple #[.int .i64 (formL es).1,.int .i64 (formL es).2]) ∧ Below w.heap.size w w':=by
 have HB:Hid (Below w.heap.size w (w.alloc (.cells #[.slice (some ⟨b,o,none⟩) es.length c] 44 (0,0)))):=(Below.refl _ _).alloc (Nat.le_refl _) _
 have hbx:=blk_new w (.cells #[.slice (some ⟨b,o,none⟩) es.length c] 44 (0,0))
 by_cases hm:256 < es.length
 ·have HF:Hid (formL es = (0,1309)):=by unfold Hid formL;rw [if_pos hm]
  have d1:decide (256 < (es.length:Int)) = true:=decide_eq_true (by omega)
  clear h hp hm
  go_enter Tryz.func27,Tryz.ntmps27
  go_wp2_with fail
  go_ret2
  exact ⟨by rw [HF.out];rfl,HB.out⟩
 have d1:decide (256 < (es.length:Int)) = false:=decide_eq_false (by omega)
 have HF:Hid (formL es = formG es es.length 0):=by unfold Hid formL;rw [if_neg hm]
 have HFM:=Lib.hid (fun i (x:Ent) W (hx:es[i]? = some x) (hW:Below w.heap.size w W) (hi:i < es.length)=>fault_any (es.take i) x b o c W ((h.below hW).take i) (by rw [List.length_take];omega) hcm (fun y hy=>hp y (List.mem_of_mem_take hy)) (hp x (List.mem_of_getElem? hx)))
 have HE:=Lib.hid h
 clear h hp
 go_enter Tryz.func27,Tryz.ntmps27
 go_wp2_with fail
 change Code.wp _ _ _ _ (w.alloc (.cells #[.slice (some ⟨b,o,none⟩) es.length c] 44 (0,0)))
 generalize (w.alloc (.cells #[.slice (some ⟨b,o,none⟩) es.length c] 44 (0,0))) = w1 at *
 have HBX:=Lib.hid hbx
 clear hbx d1
 go_loopg [14] es.length (fun kk v14 wr=>∃ i:Nat,i + kk = es.length ∧ v14 = .int .i64 i ∧ Hid (formL es = formG es (es.length - i) i) ∧ Hid (Below w1.heap.size w1 wr))
 case atStart=>exact ⟨0,by omega,rfl,HF,Below.refl _ _⟩
 case round =>
  clear HF
  obtain ⟨i,hik,rfl,HF,HW⟩:=hrel
  have HBw:Hid (Below w.heap.size w wr):=HB.out.trans (HW.out.mono HB.out.size)
  by_cases hlt:i < es.length
  ·cases gk with
   | zero=>omega
   | succ gk =>
   obtain ⟨x,hx⟩:∃ x,es[i]? = some x:=⟨_,List.getElem?_eq_getElem hlt⟩
   obtain ⟨x0,x1,x2,x3⟩:=(HE.out.below HBw.out) i x hx
   have hii:(i:Int) < (es.length:Int):=by omega
   have hic:(i:Int) ≤ (c:Int):=by omega
   have HNEW:=Lib.hid (blk_new wr (entO x))
   have HBA:Hid (Below wr.heap.size wr (wr.alloc (entO x))):=(Below.refl _ _).alloc (Nat.le_refl _) _
   have HW4:Hid (Below w1.heap.size w1 (wr.alloc (entO x))):=HW.out.trans (HBA.out.mono HW.out.size)
   have HBw4:Hid (Below w.heap.size w (wr.alloc (entO x))):=HBw.out.trans (HBA.out.mono HBw.out.size)
   have HC:=HFM.out i x (wr.alloc (entO x)).drew hx HBw4.out.drew hlt
   rw [List.length_take,Nat.min_eq_left (by omega)] at HC
   have HS:=Lib.hid (formG_step es (es.length - (i + 1)) i x hx)
   rw [show es.length - (i + 1) + 1 = es.length - i by omega] at HS
   have HC:=Lib.hid HC
   clear hx
   go_upto_region 6 with fail
   change Code.wp _ _ _ _ (wr.alloc (entO x))
   generalize (wr.alloc (entO x)) = w4 at *
   generalize wr.heap.size = b5 at *
   clear x0 x1 x2 x3
   have hq:=blk_below HBX.out HW4.out
   have q0:=blk_cell hq 0
   have ql:=blk_lt hq
   simp only [List.getElem?_toArray,List.getElem?_cons_zero] at q0
   clear hq
   have p0:=blk_cell (HNEW.out) 0
   have p1:=blk_cell (HNEW.out) 1
   have p2:=blk_cell (HNEW.out) 2
   have p3:=blk_cell (HNEW.out) 3
   have pl:=blk_lt (HNEW.out)
   simp only [List.getElem?_toArray,List.getElem?_cons_zero,List.getElem?_cons_succ] at p0 p1 p2 p3
   go_still_tail 5,(by kernel_rfl)
   change wpList _ _ _ _ _ w4.drew
   go_wp2_with fail
   refine HC.out.mono ?_;rintro r w2 ⟨rfl,hb⟩
   have HW2:Hid (Below w1.heap.size w1 w2):=HW4.out.trans ((Below.refl _ _).drew.trans (hb.mono (Nat.le_refl _)) |>.mono HW4.out.size)
   have HBw2:Hid (Below w.heap.size w w2):=HB.out.trans (HW2.out.mono HB.out.size)
   clear p0 p1 p2 p3 pl
   clear hb HC HW HBw HW4 HBw4 q0 ql
   by_cases hf:entF (es.take i) x = 0
   ·rw [hf] at HS ⊢
    rw [if_pos rfl] at HS
    clear hf
    go_wp2_with fail
    go_roundg gk
    case rel=>exact ⟨i + 1,by omega,by go_num,HF.out.trans HS.out,HW2.out⟩
    case measure=>omega
   ·have hfb:(entF (es.take i) x != 0) = true:=by simp [bne,hf]
    rw [if_neg hf] at HS
    have HF2:=Lib.hid (HF.out.trans HS.out)
    clear hf HS HF
    go_wp2_with fail
    go_ret2
    exact ⟨by rw [HF2.out];rfl,HBw2.out⟩
  ·have hi2:i = es.length:=by omega
   subst hi2
   rw [Nat.sub_self] at HF
   have HF2:Hid (formL es = (0,0)):=HF.out
   clear HF
   go_wp2_with fail
   go_ret2
   exact ⟨by rw [HF2.out];rfl,HBw.out⟩
end Go.Proofs.YtifhnpkapgaboaaGreat.arch
