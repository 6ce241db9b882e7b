/-
  Proved: what the document's own IsClean and Below give. Conditions: as each theorem says.
  Proved: plain facts on layers: which entries may be, the program's questions are the document's. Conditions: as each theorem says. No program is in sight.
  Proved: what the document's small questions on entries give. Conditions: as each theorem says.
-/
import Derived.Test.YtifhnpkapgaboaaGreatPj7
import Derived.Deep.QuietTactic
import Derived.BigQuiet
import Derived.Deep.LoopGhost
set_option linter.unusedVariables false
set_option linter.unusedSimpArgs false
namespace Go.Proofs.YtifhnpkapgaboaaGreat.path
open Go.RowKit Go.Shelf
open heap
theorem clean_parts (l:List UInt8):cleanB l = true ↔ (partsL l).length ≤ 8 ∧ l.length ≤ 140 ∧ ∀ p ∈ partsL l,nameE p = 0:=by
 unfold cleanB partsL
 by_cases h:l = []
 ·simp [h]
 ·simp only [h,decide_false,Bool.false_or,Bool.and_eq_true,decide_eq_true_eq,if_false]
  exact ⟨fun h=>⟨h.1.2,h.2,h.1.1⟩,fun h=>⟨⟨h.2.2,h.1⟩,h.2.1⟩⟩
theorem parts_bd (l:List UInt8):(partsL l).length ≤ l.length + 1 ∧ ∀ p ∈ partsL l,p.length ≤ l.length:=by
 unfold partsL
 split
 ·simp
 ·exact ⟨(pieces_bd l).1,fun p hp=>((pieces_bd l).2 p hp).1⟩
set_option maxRecDepth 100000 in
set_option maxHeartbeats 1000000 in
theorem rIsClean_any (l:List UInt8) (w:World) (hl:l.length ≤ 2000000) :
  Calls Tryz.prog 94 #[sv l] w fun e w'=>e = .returned (.bool (cleanB l)) ∧ Below w.heap.size w w':=by
 have z:=str_size l
 have HP:=Lib.hid (fun W:World=>rParts_any l W hl)
 have HCB:=Lib.hid (clean_parts l)
 have HBD:=Lib.hid (parts_bd l)
 generalize hcb:cleanB l = cb at *
 generalize hxs:partsL l = xs at *
 clear hcb hxs
 go_enter Tryz.func94,Tryz.ntmps94
 go_wp2_with fail
 (with_reducible refine (HP.out _).mono ?_);rintro e w1 ⟨v,rfl,hr,hb⟩
 obtain ⟨a1,c1,rfl⟩:=own_slice hr
 have HR:=Lib.hid hr
 have HB:=Lib.hid hb
 have hxl:xs.length ≤ 2000001:=by have:=HBD.out.1;omega
 clear hr hb HP
 by_cases h8:8 < xs.length
 ·obtain rfl:cb = false:=by
   cases cb with
   | false=>rfl
   | true=>have:=(HCB.out.1 rfl).1;omega
  have d8:decide ((8:Int) < (xs.length:Int)) = true:=decide_eq_true (by omega)
  go_wp2_with fail
  go_ret
  exact ⟨rfl,HB.out⟩
 ·have d8:decide ((8:Int) < (xs.length:Int)) = false:=decide_eq_false (by omega)
  by_cases h140:140 < l.length
  ·obtain rfl:cb = false:=by
    cases cb with
    | false=>rfl
    | true=>have:=(HCB.out.1 rfl).2.1;omega
   have d140:decide ((140:Int) < (l.length:Int)) = true:=decide_eq_true (by omega)
   go_wp2_with fail
   go_ret
   exact ⟨rfl,HB.out⟩
  ·have d140:decide ((140:Int) < (l.length:Int)) = false:=decide_eq_false (by omega)
   go_wp2_with fail
   go_loopw [4] (fun i wr=>∃ j:Nat,j ≤ xs.length ∧ i = .int .i64 j ∧ Hid ((∀ k q,k < j → xs[k]? = some q → nameE q = 0) ∧ w1 = wr)) (fun i _=>xs.length - (intOf i).toNat)
   case atStart=>exact ⟨0,by omega,rfl,fun k q hk=>by omega,rfl⟩
   case round =>
    obtain ⟨j,hj,rfl,HH⟩:=hrel
    obtain rfl:=HH.out.2
    by_cases hlt:j < xs.length
    ·rcases HR.out.cells with ⟨-,hw⟩ | ⟨g1,c',hv',hgl1,hc1,hc2,hcell1⟩
     ·rw [hw] at hlt;simp at hlt
     ·simp only [Value.slice.injEq] at hv'
      obtain ⟨rfl,-,rfl⟩:=hv'
      obtain ⟨p,hp⟩:∃ p,xs[j]? = some p:=⟨_,List.getElem?_eq_getElem hlt⟩
      have hcp1:=hcell1 j p hp
      have hji:(j:Int) < xs.length:=by omega
      have hpl:=HBD.out.2 p (List.mem_of_getElem? hp)
      have HNM:=Lib.hid (fun W:World=>rName_any p W (by omega))
      have HPJ:=Lib.hid hp
      obtain ⟨er,her⟩:∃ er:Int,nameE p = er:=⟨_,rfl⟩
      have HER:=Lib.hid her
      rw [her] at HNM
      unfold maxLen at hc2
      clear hcell1 hp her hpl
      go_wp2_with fail
      (with_reducible refine (HNM.out _).mono ?_);rintro e w2 ⟨rfl,rfl⟩
      by_cases he:er = 0
      ·subst he
       go_wp2_with fail
       go_roundw
       case rel =>
        refine ⟨j + 1,by omega,by go_num,fun k q hk hkq => ?_,by first | rfl | trivial⟩
        rcases Nat.lt_succ_iff_lt_or_eq.1 hk with h | h
        ·exact HH.out.1 k q h hkq
        ·rw [h,HPJ.out] at hkq
         cases hkq
         exact HER.out
       case measure=>simp [intOf];omega
      ·have hne:(er != 0) = true:=by rw [bne_iff_ne];exact he
       obtain rfl:cb = false:=by
        cases cb with
        | false=>rfl
        | true=>exact absurd (HER.out.symm.trans ((HCB.out.1 rfl).2.2 p (List.mem_of_getElem? HPJ.out))) he
       clear he
       go_wp2_with fail
       go_ret
       exact ⟨rfl,HB.out⟩
    ·obtain rfl:j = xs.length:=by omega
     obtain rfl:cb = true:=HCB.out.2 ⟨by omega,by omega,fun p hp=>by
      obtain ⟨k,hk⟩:=List.mem_iff_getElem?.1 hp
      exact HH.out.1 k p (by have:=(List.getElem?_eq_some_iff.1 hk).1;exact this) hk⟩
     go_wp2_with fail
     go_ret
     exact ⟨rfl,HB.out⟩
theorem pre_iff (s t:List UInt8):Lib.hasPrefix s (t ++ [47]) = true ↔ s.take t.length = t ∧ s[t.length]? = some 47:=by
 unfold Lib.hasPrefix
 rw [List.isPrefixOf_iff_prefix]
 constructor
 ·rintro ⟨r,rfl⟩
  simp
 ·rintro ⟨h1,h2⟩
  refine ⟨s.drop (t.length + 1),?_⟩
  conv=>rhs;rw [← List.take_append_drop (t.length + 1) s,List.take_add_one,h1,h2]
  simp
set_option maxRecDepth 100000 in
set_option maxHeartbeats 1000000 in
theorem rBelow_any (s t:List UInt8) (w:World) (hs:s.length ≤ 2000000) (ht:t.length ≤ 2000000) :
  Calls Tryz.prog 127 #[sv s,sv t] w fun e w'=>e = .returned (.bool (belowB s t)) ∧ w = w':=by
 have zs:=str_size s
 have zt:=str_size t
 by_cases h0:t = []
 ·have HV:Hid (belowB s t = true):=by simp [Hid,belowB,h0]
  rw [HV.out]
  subst h0
  go_enter Tryz.func127,Tryz.ntmps127
  go_wp2
  go_ret
  exact ⟨rfl,rfl⟩
 ·have b0:t.isEmpty = false:=by cases t <;> simp_all
  have b0':(t == []) = false:=by rw [beq_eq_false_iff_ne];exact h0
  by_cases h1:s = t
  ·have HV:Hid (belowB s t = true):=by simp [Hid,belowB,h1]
   rw [HV.out]
   subst h1
   clear h0
   go_enter Tryz.func127,Tryz.ntmps127
   go_wp2
   go_ret
   exact ⟨rfl,rfl⟩
  ·have b1:(s == t) = false:=by rw [beq_eq_false_iff_ne];exact h1
   have HV:Hid (belowB s t = Lib.hasPrefix s (t ++ [47])):=by simp [Hid,belowB,h0,h1]
   have HI:=Lib.hid (pre_iff s t)
   rw [HV.out]
   generalize Lib.hasPrefix s (t ++ [47]) = r at *
   clear h0 h1 HV
   by_cases h2:t.length < s.length
   ·have d2:decide ((t.length:Int) < (s.length:Int)) = true:=decide_eq_true (by omega)
    have hex:(⟨s.toArray⟩:ByteArray).extract 0 t.length = ⟨(s.take t.length).toArray⟩:=by rw [cut_str];simp
    have hz:t.length < (⟨s.toArray⟩:ByteArray).size:=by rw [zs];exact h2
    obtain ⟨x,hx⟩:∃ x:UInt8,(⟨s.toArray⟩:ByteArray)[t.length]'hz = x:=⟨_,rfl⟩
    have HX:Hid (s[t.length]? = some x):=by rw [Hid,List.getElem?_eq_getElem h2];exact congrArg some hx
    by_cases h3:s.take t.length = t
    ·have b3:(s.take t.length == t) = true:=by rw [beq_iff_eq];exact h3
     have HI2:Hid (r = true ↔ x = 47):=by rw [Hid,HI.out,HX.out];simp [h3]
     generalize s.take t.length = s2 at *
     clear HI h3
     obtain ⟨c,hc⟩:∃ c:Nat,x.toNat = c:=⟨_,rfl⟩
     by_cases e1:x = 47
     ·obtain rfl:r = true:=HI2.out.2 e1
      have n1:c = 47:=by rw [← hc,e1];rfl
      subst n1
      clear e1
      go_enter Tryz.func127,Tryz.ntmps127
      go_wp2
      go_ret
      exact ⟨rfl,rfl⟩
     ·obtain rfl:r = false:=by
       cases r with
       | false=>rfl
       | true=>exact absurd (HI2.out.1 rfl) e1
      have n1:c ≠ 47:=fun h=>e1 (UInt8.toNat_inj.1 (hc.trans h))
      have n3:((c:Int) == 47) = false:=by rw [beq_eq_false_iff_ne];omega
      clear e1
      go_enter Tryz.func127,Tryz.ntmps127
      go_wp2
      go_ret
      exact ⟨rfl,rfl⟩
    ·have b3:(s.take t.length == t) = false:=by rw [beq_eq_false_iff_ne];exact h3
     obtain rfl:r = false:=by
      cases r with
      | false=>rfl
      | true=>exact absurd (HI.out.1 rfl).1 h3
     generalize s.take t.length = s2 at *
     clear HI h3
     go_enter Tryz.func127,Tryz.ntmps127
     go_wp2
     go_ret
     exact ⟨rfl,rfl⟩
   ·have d2:decide ((t.length:Int) < (s.length:Int)) = false:=decide_eq_false (by omega)
    obtain rfl:r = false:=by
     cases r with
     | false=>rfl
     | true=>have:=(List.getElem?_eq_some_iff.1 (HI.out.1 rfl).2).1;omega
    clear HI
    go_enter Tryz.func127,Tryz.ntmps127
    go_wp2
    go_ret
    exact ⟨rfl,rfl⟩
end Go.Proofs.YtifhnpkapgaboaaGreat.path
namespace Go.Proofs.YtifhnpkapgaboaaGreat.arch
open Go Go.RowKit
open path (cleanB cleanR piecesL partsL joinL nameE belowB)
abbrev Nm:=List UInt8
structure Ent where
 path:Nm
 kind:Int
 mode:Int
 data:Nm
deriving DecidableEq
def lessB:Nm → Nm → Bool
 | _,[]=>false
 | [],_ :: _=>true
 | a :: r,b :: s=>if a = b then lessB r s else a == 47 || (b != 47 && decide (a < b))
def cmpT:Nm → Nm → Int
 | [],[]=>0
 | [],_ :: _ => -1
 | _ :: _,[]=>1
 | a :: r,b :: s=>if a = b then cmpT r s else if a < b then -1 else 1
def cmpP:List Nm → List Nm → Int
 | [],[]=>0
 | [],_ :: _ => -1
 | _ :: _,[]=>1
 | p :: ps,q :: qs=>if cmpT p q = 0 then cmpP ps qs else cmpT p q
theorem cmpT_cons (c:UInt8) (p q:Nm):cmpT (c :: p) (c :: q) = cmpT p q:=by rw [cmpT,if_pos rfl]
theorem pieces_cons (c:UInt8) (r:Nm) (h:c ≠ 47):∃ p ps,piecesL r = p :: ps ∧ piecesL (c :: r) = (c :: p) :: ps:=by
 cases hr:piecesL r with
 | nil=>exact absurd hr (path.piecesL_ne r)
 | cons p ps =>
  refine ⟨p,ps,rfl,?_⟩
  rw [piecesL,if_neg h,hr]
theorem cmp_pieces:∀ (a b:Nm),cmpP (piecesL a) (piecesL b) = if a = b then 0 else if lessB a b then -1 else 1
 | [],[]=>rfl
 | [],d :: s=>by
  rw [if_neg (by simp)]
  by_cases h:d = 47
  ·subst h
   rw [piecesL,piecesL,if_pos rfl]
   cases hs:piecesL s with
   | nil=>exact absurd hs (path.piecesL_ne s)
   | cons q qs=>rfl
  ·obtain ⟨q,qs,hs,hb⟩:=pieces_cons d s h
   rw [hb]
   rfl
 | c :: r,[]=>by
  rw [if_neg (by simp)]
  by_cases h:c = 47
  ·subst h
   rw [piecesL,piecesL,if_pos rfl]
   cases hs:piecesL r with
   | nil=>exact absurd hs (path.piecesL_ne r)
   | cons q qs=>rfl
  ·obtain ⟨q,qs,hs,hb⟩:=pieces_cons c r h
   rw [hb]
   rfl
 | c :: r,d :: s=>by
  have ih:=cmp_pieces r s
  by_cases hcd:c = d
  ·subst hcd
   rw [lessB,if_pos rfl]
   simp only [List.cons.injEq,true_and]
   rw [← ih]
   by_cases h:c = 47
   ·subst h
    rw [piecesL,piecesL,if_pos rfl,if_pos rfl,cmpP,if_pos (show cmpT [] [] = 0 from rfl)]
   ·obtain ⟨p,ps,hp,ha⟩:=pieces_cons c r h
    obtain ⟨q,qs,hq,hb⟩:=pieces_cons c s h
    rw [ha,hb,hp,hq,cmpP,cmpP,cmpT_cons]
  ·rw [if_neg (fun e=>hcd (List.cons.inj e).1),lessB,if_neg hcd]
   by_cases hc:c = 47
   ·subst hc
    obtain ⟨q,qs,hq,hb⟩:=pieces_cons d s (fun e=>hcd e.symm)
    rw [hb,piecesL,if_pos rfl,cmpP]
    simp [cmpT]
   ·obtain ⟨p,ps,hp,ha⟩:=pieces_cons c r hc
    by_cases hd:d = 47
    ·subst hd
     rw [ha,piecesL,if_pos rfl,cmpP]
     simp [cmpT,hc]
    ·obtain ⟨q,qs,hq,hb⟩:=pieces_cons d s hd
     rw [ha,hb,cmpP,cmpT,if_neg hcd]
     by_cases hlt:c < d
     ·simp [hlt,hd]
     ·simp [hlt,hc]
def cmpE (a b:Nm):Int:=cmpP (partsL a) (partsL b)
theorem cmp_less (a b:Nm):decide (0 ≤ cmpE a b) = !lessB a b:=by
 unfold cmpE partsL
 by_cases ha:a = []
 ·subst ha
  by_cases hb:b = []
  ·subst hb;rfl
  ·rw [if_pos rfl,if_neg hb]
   cases hq:piecesL b with
   | nil=>exact absurd hq (path.piecesL_ne b)
   | cons q qs =>
    cases b with
    | nil=>exact absurd rfl hb
    | cons d s=>rfl
 ·by_cases hb:b = []
  ·subst hb
   rw [if_neg ha,if_pos rfl]
   cases hq:piecesL a with
   | nil=>exact absurd hq (path.piecesL_ne a)
   | cons q qs =>
    cases a with
    | nil=>exact absurd rfl ha
    | cons d s=>rfl
  ·rw [if_neg ha,if_neg hb,cmp_pieces]
   by_cases hab:a = b
   ·subst hab
    have:∀ l:Nm,lessB l l = false:=fun l=>by
     induction l with
     | nil=>rfl
     | cons x l ih=>rw [lessB,if_pos rfl];exact ih
    rw [if_pos rfl,this a];rfl
   ·rw [if_neg hab]
    cases lessB a b <;> rfl
theorem join_pieces (l:Nm):joinL (piecesL l) = l:=by
 induction l with
 | nil=>rfl
 | cons c r ih =>
  by_cases h:c = 47
  ·subst h
   rw [piecesL,if_pos rfl]
   cases hp:piecesL r with
   | nil=>exact absurd hp (path.piecesL_ne r)
   | cons p ps =>
    rw [hp] at ih
    rw [path.joinL_cons,ih];rfl
  ·obtain ⟨p,ps,hp,ha⟩:=pieces_cons c r h
   rw [ha]
   rw [hp] at ih
   cases ps with
   | nil=>rw [path.joinL_one] at ih ⊢;rw [ih]
   | cons q qs =>
    rw [path.joinL_cons] at ih ⊢
    rw [List.cons_append,ih]
theorem clean_iff (p:Nm):((cleanR [] (47 :: p)).2 = 0 ∧ p ≠ [] ∧ (cleanR [] (47 :: p)).1 = p) ↔ (p ≠ [] ∧ cleanB p = true):=by
 constructor
 ·rintro ⟨h1,h2,h3⟩
  obtain ⟨hc,-,-,ws,hw,hj,h8,h140,-⟩:=path.clean_ok [] (47 :: p) h1
  have hg:=path.wayW_good _ _ _ hw (path.start_good [] (47 :: p) hc)
  rw [h3] at hj
  refine ⟨h2,?_⟩
  rw [hj]
  exact path.clean_join ws hg h8 h140
 ·rintro ⟨h2,hc⟩
  obtain ⟨h8,h140,hg⟩:=(path.clean_parts p).1 hc
  have hj:joinL (partsL p) = p:=by unfold partsL;rw [if_neg h2];exact join_pieces p
  have:=path.clean_root [] (partsL p) (by rfl) hg h8 (by rw [hj];exact h140)
  rw [hj] at this
  rw [this]
  exact ⟨rfl,h2,rfl⟩
def parB (e x:Ent):Bool:=x.kind != 1 && x.kind != 5 && belowB e.path x.path
def modeB (k m:Int):Bool:=if k = 3 then m == 511 else if k = 4 then m == 0 else decide (0 ≤ m) && decide (m ≤ 511)
def lenB (k:Int) (n:Nat):Bool:=if k = 2 then decide (n ≤ 1024) else if k = 3 then decide (1 ≤ n) && decide (n ≤ 64) else n == 0
def lastP (es:List Ent):Nm:=(es.getLast?.map Ent.path).getD []
def pathE (es:List Ent) (e:Ent):Int:=
 if e.path = [] ∨ cleanB e.path = false then 1303 else if es ≠ [] ∧ lessB (lastP es) e.path = false then 1304 else if es.any (parB e) then 1305 else 0
def entF (es:List Ent) (e:Ent):Int:=
 if e.kind < 1 ∨ 5 < e.kind then 1302 else if pathE es e ≠ 0 then pathE es e else if modeB e.kind e.mode = false then 1306 else if lenB e.kind e.data.length = false then 1307 else if e.kind = 3 ∧ (0:UInt8) ∈ e.data then 1308 else 0
def e0:Ent:=⟨[],0,0,[]⟩
def formG (es:List Ent):Nat → Nat → Int × Int
 | 0,_=>(0,0)
 | f + 1,i=>if entF (es.take i) (es.getD i e0) = 0 then formG es f (i + 1) else ((i:Int),entF (es.take i) (es.getD i e0))
def formL (es:List Ent):Int × Int:=if 256 < es.length then (0,1309) else formG es es.length 0
def le2 (n:Nat):Nm := [UInt8.ofNat n,UInt8.ofNat (n / 256)]
def entS (e:Ent):Nm:=UInt8.ofNat e.kind.toNat :: UInt8.ofNat e.path.length :: (e.path ++ (le2 e.mode.toNat ++ (le2 e.data.length ++ e.data)))
def bodyS (es:List Ent):Nm:=(es.map entS).flatten
def streamL (es:List Ent):Nm := [79,82,76] ++ bodyS es ++ [0]
def encL (es:List Ent):Nm × Int × Int:=if (formL es).2 ≠ 0 then ([],formL es) else if 65536 < (streamL es).length then ([],0,1311) else (streamL es,0,0)
theorem body_snoc (es:List Ent) (i:Nat) (e:Ent) (h:es[i]? = some e):bodyS (es.take (i + 1)) = bodyS (es.take i) ++ entS e:=by
 unfold bodyS
 rw [List.take_add_one,h,List.map_append,List.flatten_append]
 simp
theorem ent_ok {es:List Ent} {e:Ent} (h:entF es e = 0):1 ≤ e.kind ∧ e.kind ≤ 5 ∧ e.path ≠ [] ∧ e.path.length ≤ 140 ∧ 0 ≤ e.mode ∧ e.mode ≤ 511 ∧ e.data.length ≤ 1024:=by
 unfold entF at h
 split at h
 ·exact absurd h (by decide)
 ·rename_i hk
  split at h
  ·rename_i hp;exact absurd h hp
  ·rename_i hp
   have hp0:pathE es e = 0:=Classical.byContradiction hp
   split at h
   ·exact absurd h (by decide)
   ·rename_i hm
    split at h
    ·exact absurd h (by decide)
    ·rename_i hl
     have hpath:e.path ≠ [] ∧ e.path.length ≤ 140:=by
      unfold pathE at hp0
      split at hp0
      ·exact absurd hp0 (by decide)
      ·rename_i h1
       refine ⟨fun e1=>h1 (.inl e1),?_⟩
       have hc:cleanB e.path = true:=by
        cases hb:cleanB e.path with
        | true=>rfl
        | false=>exact absurd (.inr hb) h1
       exact ((path.clean_parts e.path).1 hc).2.1
     have hm2:0 ≤ e.mode ∧ e.mode ≤ 511:=by
      have hm1:modeB e.kind e.mode = true:=by simpa using hm
      unfold modeB at hm1
      split at hm1
      ·have:=eq_of_beq hm1;omega
      ·split at hm1
       ·have:=eq_of_beq hm1;omega
       ·rw [Bool.and_eq_true,decide_eq_true_iff,decide_eq_true_iff] at hm1;exact hm1
     have hl2:e.data.length ≤ 1024:=by
      have hl1:lenB e.kind e.data.length = true:=by simpa using hl
      unfold lenB at hl1
      split at hl1
      ·exact of_decide_eq_true hl1
      ·split at hl1
       ·rw [Bool.and_eq_true,decide_eq_true_iff,decide_eq_true_iff] at hl1;omega
       ·have:=eq_of_beq hl1;omega
     exact ⟨by omega,by omega,hpath.1,hpath.2,hm2.1,hm2.2,hl2⟩
end Go.Proofs.YtifhnpkapgaboaaGreat.arch
namespace Go.Proofs.YtifhnpkapgaboaaGreat.arch
open Go.RowKit
open heap
open path (sv str_size cleanB belowB)
set_option maxRecDepth 100000
theorem still {P:Program} {f:FuncId} {args:Array Value} {w:World} {n:Nat} {v:Value}
  (h:Calls P f args (w.drewN n) fun e w'=>e = .returned v ∧ w.drewN n = w'):Calls P f args (w.drewN n) fun e w''=>e = .returned v ∧ ∃ m,w'' = w.drewN m:=
 h.mono fun _ _ ⟨he,hm⟩=>⟨he,n,hm.symm⟩
theorem drewN_add (w:World) (n:Nat):∀ m,(w.drewN n).drewN m = w.drewN (n + m)
 | 0=>rfl
 | m + 1=>by show ((w.drewN n).drewN m).drew = (w.drewN (n + m)).drew;rw [drewN_add w n m]
theorem still2 {P:Program} {f:FuncId} {args:Array Value} {w:World} {n:Nat} {v:Value}
  (h:Calls P f args (w.drewN n) fun e w'=>e = .returned v ∧ ∃ m,w' = (w.drewN n).drewN m):Calls P f args (w.drewN n) fun e w''=>e = .returned v ∧ ∃ m,w'' = w.drewN m:=
 h.mono fun _ _ ⟨he,m,hm⟩=>⟨he,n + m,by rw [hm,drewN_add]⟩
theorem below_drewN {n:Nat} {w w':World} (h:Below n w w'):∀ k:Nat,Below n w (w'.drewN k)
 | 0=>h
 | k + 1=>(below_drewN h k).drew
abbrev entV (e:Ent):Value:=.agg #[.string ⟨e.path.toArray⟩,.int .i64 e.kind,.int .i64 e.mode,.string ⟨e.data.toArray⟩]
abbrev entO (e:Ent):Obj:=.cells #[.string ⟨e.path.toArray⟩,.int .i64 e.kind,.int .i64 e.mode,.string ⟨e.data.toArray⟩] 58 (0,0)
def EAt (w:World) (b o:Nat) (es:List Ent):Prop:=∀ i e,es[i]? = some e → w.cell? ⟨b,o + i * 4,none⟩ = some (.string ⟨e.path.toArray⟩) ∧ w.cell? ⟨b,o + i * 4 + 1,none⟩ = some (.int .i64 e.kind) ∧ w.cell? ⟨b,o + i * 4 + 2,none⟩ = some (.int .i64 e.mode) ∧ w.cell? ⟨b,o + i * 4 + 3,none⟩ = some (.string ⟨e.data.toArray⟩)
theorem EAt.below {w w':World} {b o:Nat} {es:List Ent} (h:EAt w b o es) (hb:Below w.heap.size w w'):EAt w' b o es:=fun i e he=>by
 obtain ⟨h0,h1,h2,h3⟩:=h i e he
 have hl:=World.block_lt_of_cell? w _ h0
 rw [hb.cell (p:=⟨b,o + i * 4,none⟩) hl,hb.cell (p:=⟨b,o + i * 4 + 1,none⟩) hl,hb.cell (p:=⟨b,o + i * 4 + 2,none⟩) hl,hb.cell (p:=⟨b,o + i * 4 + 3,none⟩) hl]
 exact ⟨h0,h1,h2,h3⟩
theorem EAt.take {w:World} {b o:Nat} {es:List Ent} (h:EAt w b o es) (n:Nat):EAt w b o (es.take n):=fun i e he=>h i e (by
 rw [List.getElem?_take] at he
 split at he
 ·exact he
 ·cases he)
set_option maxHeartbeats 1000000 in
theorem target_any (l:Nm) (w:World) (hs:l.length ≤ 9223372036854775806) :
  Calls Tryz.prog 105 #[sv l] w fun e w'=>e = .returned (.bool (!decide ((0:UInt8) ∈ l))) ∧ w = w':=by
 have z:=str_size l
 go_enter Tryz.func105,Tryz.ntmps105
 go_wp2_with fail
 go_loopg [3] l.length (fun kk v3 wr=>∃ j:Nat,j + kk = l.length ∧ v3 = .int .i64 j ∧ Hid ((0:UInt8) ∉ l.take j) ∧ w = wr)
 case atStart=>exact ⟨0,by omega,rfl,by simp [Hid],rfl⟩
 case round =>
  obtain ⟨j,hjk,rfl,HN,rfl⟩:=hrel
  by_cases hlt:j < l.length
  ·cases gk with
   | zero=>omega
   | succ gk =>
   have hz:j < (⟨l.toArray⟩:ByteArray).size:=by rw [z];exact hlt
   obtain ⟨x,hx⟩:∃ x:UInt8,(⟨l.toArray⟩:ByteArray)[j]'hz = x:=⟨_,rfl⟩
   have HX:Hid (l[j]'hlt = x):=hx
   have HM:=Lib.hid (path.mem_take_succ l j 0 hlt)
   by_cases e1:x = 0
   ·have HT:Hid (decide ((0:UInt8) ∈ l) = true):=by
     have h1:l[j]'hlt = 0:=HX.out.trans e1
     exact decide_eq_true (h1 ▸ List.getElem_mem hlt)
    subst e1
    clear HM
    go_wp2_with fail
    go_ret
    exact ⟨by rw [HT.out];rfl,rfl⟩
   ·have HN2:Hid ((0:UInt8) ∉ l.take (j + 1)):=by
     rw [Hid,HM.out]
     rintro (h | h)
     ·exact HN.out h
     ·exact e1 (HX.out.symm.trans h)
    obtain ⟨c,hc⟩:∃ c:Nat,x.toNat = c:=⟨_,rfl⟩
    have n2:c ≠ 0:=fun h=>e1 (UInt8.toNat_inj.1 (hc.trans h))
    have n4:((c:Int) == 0) = false:=by rw [beq_eq_false_iff_ne];omega
    clear HM e1
    go_wp2_with fail
    go_roundg gk
    case rel=>exact ⟨j + 1,by omega,by go_num,HN2,rfl⟩
    case measure=>omega
  ·have hj2:j = l.length:=by omega
   subst hj2
   have HT:Hid (decide ((0:UInt8) ∈ l) = false):=by
    have:=HN.out
    rw [List.take_length] at this
    exact decide_eq_false this
   go_wp2_with fail
   go_ret
   exact ⟨by rw [HT.out];rfl,rfl⟩
theorem rmode_any (e:Ent) (w:World):Calls Tryz.prog 103 #[entV e] w fun r w'=>r = .returned (.bool (modeB e.kind e.mode)) ∧ Below w.heap.size w w':=by
 have HB:Hid (Below w.heap.size w (w.alloc (entO e))):=(Below.refl _ _).alloc (Nat.le_refl _) _
 obtain ⟨p,k,m,d⟩:=e
 simp only at HB ⊢
 by_cases k3:k = 3
 ·subst k3
  go_enter Tryz.func103,Tryz.ntmps103
  go_wp2_with fail
  go_ret
  exact ⟨rfl,HB.out⟩
 ·have b3:(k == 3) = false:=beq_eq_false_iff_ne.2 k3
  by_cases k4:k = 4
  ·subst k4
   clear k3 b3
   go_enter Tryz.func103,Tryz.ntmps103
   go_wp2_with fail
   go_ret
   exact ⟨rfl,HB.out⟩
  ·have b4:(k == 4) = false:=beq_eq_false_iff_ne.2 k4
   have HM:Hid (modeB k m = (decide (0 ≤ m) && decide (m ≤ 511))):=by unfold Hid modeB;rw [if_neg k3,if_neg k4]
   clear k3 k4
   by_cases h0:0 ≤ m
   ·have d0:decide (0 ≤ m) = true:=decide_eq_true h0
    rw [d0,Bool.true_and] at HM
    go_enter Tryz.func103,Tryz.ntmps103
    go_wp2_with fail
    go_ret
    exact ⟨by rw [HM.out];rfl,HB.out⟩
   ·have d0:decide (0 ≤ m) = false:=decide_eq_false h0
    rw [d0,Bool.false_and] at HM
    clear h0
    go_enter Tryz.func103,Tryz.ntmps103
    go_wp2_with fail
    go_ret
    exact ⟨by rw [HM.out];rfl,HB.out⟩
theorem rlength_any (k:Int) (n:Nat) (w:World):Calls Tryz.prog 104 #[.int .i64 k,.int .i64 n] w fun r w'=>r = .returned (.bool (lenB k n)) ∧ w = w':=by
 by_cases k2:k = 2
 ·subst k2
  have HM:Hid (lenB 2 n = decide ((n:Int) ≤ 1024)):=by unfold Hid lenB;rw [if_pos rfl,decide_eq_decide];omega
  go_enter Tryz.func104,Tryz.ntmps104
  go_wp2_with fail
  go_ret
  exact ⟨by rw [HM.out];rfl,rfl⟩
 ·have b2:(k == 2) = false:=beq_eq_false_iff_ne.2 k2
  by_cases k3:k = 3
  ·subst k3
   clear k2 b2
   by_cases h0:1 ≤ n
   ·have d0:decide ((1:Int) ≤ (n:Int)) = true:=decide_eq_true (by omega)
    have HM:Hid (lenB 3 n = decide ((n:Int) ≤ 64)):=by
     unfold Hid lenB
     rw [if_neg (by decide),if_pos rfl,decide_eq_true h0,Bool.true_and,decide_eq_decide];omega
    clear h0
    go_enter Tryz.func104,Tryz.ntmps104
    go_wp2_with fail
    go_ret
    exact ⟨by rw [HM.out];rfl,rfl⟩
   ·have d0:decide ((1:Int) ≤ (n:Int)) = false:=decide_eq_false (by omega)
    have HM:Hid (lenB 3 n = false):=by
     unfold Hid lenB
     rw [if_neg (by decide),if_pos rfl,decide_eq_false h0,Bool.false_and]
    clear h0
    go_enter Tryz.func104,Tryz.ntmps104
    go_wp2_with fail
    go_ret
    exact ⟨by rw [HM.out];rfl,rfl⟩
  ·have b3:(k == 3) = false:=beq_eq_false_iff_ne.2 k3
   have HM:Hid (lenB k n = ((n:Int) == 0)):=by
    unfold Hid lenB
    rw [if_neg k2,if_neg k3,Bool.eq_iff_iff,beq_iff_eq,beq_iff_eq];omega
   clear k2 k3
   go_enter Tryz.func104,Tryz.ntmps104
   go_wp2_with fail
   go_ret
   exact ⟨by rw [HM.out];rfl,rfl⟩
end Go.Proofs.YtifhnpkapgaboaaGreat.arch
