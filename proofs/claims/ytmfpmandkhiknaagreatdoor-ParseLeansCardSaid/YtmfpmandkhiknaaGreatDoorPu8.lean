/-
  Proved: what a scanner's token returns, at every place of every text. Conditions: as each theorem says.
  Proved: what lex.Tokens returns, of every text. Conditions: as each theorem says.
-/
import Derived.Test.YtmfpmandkhiknaaGreatDoorPu7
import Derived.Lib.SmallJoins
import Derived.Test.YtmfpmandkhiknaaGreatDoorPu2
set_option linter.unusedVariables false
set_option linter.unusedSimpArgs false
namespace Go.Proofs.YtmfpmandkhiknaaGreatDoor.lex
open Go.RowKit
open flt (isD fv ofT ofE OfText_any str_size)
open heap
open num (list_len drop_cons ret_pair bcell)
set_option maxRecDepth 100000
def tokV (s:ByteArray) (a:Nat) (t:List UInt8):Value:=if t = [] then .tuple #[tkV 0 ⟨#[]⟩ 0 a,scV s a,.int .i64 0] else match tok t with
 | .error e=>.tuple #[tkV 0 ⟨#[]⟩ 0 a,scV s a,.int .i64 e]
 | .ok x=>.tuple #[tkV x.1 ⟨x.2.1.toArray⟩ x.2.2.1 a,scV s ((a + x.2.2.2:Nat):Int),.int .i64 0]
theorem tokV_bad {s:ByteArray} {a:Nat} {t:List UInt8} {e:Int} (h:t ≠ []) (ht:tok t = .error e):tokV s a t = .tuple #[tkV 0 ⟨#[]⟩ 0 a,scV s a,.int .i64 e]:=by
 unfold tokV;rw [if_neg h,ht]
theorem tokV_ok {s:ByteArray} {a:Nat} {t u:List UInt8} {k:Int} {x n:Nat} (h:t ≠ []) (ht:tok t = .ok (k,u,x,n)):tokV s a t = .tuple #[tkV k ⟨u.toArray⟩ x a,scV s ((a + n:Nat):Int),.int .i64 0]:=by
 unfold tokV;rw [if_neg h,ht]
theorem ext_take (R:ByteArray) (n:Nat):R.extract 0 n = ⟨(R.data.toList.take n).toArray⟩:=by
 apply ByteArray.ext
 apply Array.toList_inj.1
 rw [ByteArray.data_extract,Array.toList_extract,List.extract_eq_take_drop]
 simp
theorem pre_one (c x:UInt8) (r:List UInt8):Lib.hasPrefix (c :: r) [x] = (x == c):=by
 unfold Lib.hasPrefix
 simp [List.isPrefixOf]
theorem find_one (c:UInt8) (r:List UInt8) (xs:List UInt8):(xs.map fun x => [x]).find? (fun g=>Lib.hasPrefix (c :: r) g) = if xs.contains c then some [c] else none:=by
 induction xs with
 | nil=>rfl
 | cons x q ih =>
  rw [List.map_cons,List.find?_cons,pre_one]
  by_cases h:x = c
  ·subst h;simp
  ·have h1:(x == c) = false:=beq_eq_false_iff_ne.2 h
   rw [h1]
   simp only [ih,List.contains_cons]
   have h2:(c == x) = false:=beq_eq_false_iff_ne.2 (fun e=>h e.symm)
   rw [h2,Bool.false_or]
theorem sig_tok (s:ByteArray) (a:Nat) (t:List UInt8) (h:t ≠ []) (hl:letB (t.getD 0 0) = false) (hd:isD (t.getD 0 0) = false) (hq:t.getD 0 0 ≠ 34):sigV s a t = tokV s a t:=by
 cases t with
 | nil=>exact absurd rfl h
 | cons c r =>
  have hl':letB c = false:=hl
  have hd':isD c = false:=hd
  have hq':c ≠ 34:=hq
  have ht:tok (c :: r) = if c = 61 ∧ 1 < (c :: r).length ∧ (c :: r).getD 1 0 = 61 then .ok (4,[61,61],0,2) else if signB c then .ok (4,[c],0,1) else .error 1800:=by
   unfold tok
   show (if letB c = true then _ else if isD c = true then _ else if c = 34 then _ else if c = 61 ∧ 1 < (c :: r).length ∧ (c :: r).getD 1 0 = 61 then (Except.ok (4,[61,61],0,2):Except Int _) else if signB c then .ok (4,[c],0,1) else .error 1800) = _
   rw [hl',hd',if_neg Bool.false_ne_true,if_neg Bool.false_ne_true,if_neg hq']
  have hp:Lib.hasPrefix (c :: r) [61,61] = decide (c = 61 ∧ 1 < (c :: r).length ∧ (c :: r).getD 1 0 = 61):=by
   unfold Lib.hasPrefix
   cases r with
   | nil=>simp [List.isPrefixOf]
   | cons d q =>
    simp only [List.isPrefixOf,Bool.and_true]
    rw [Bool.eq_iff_iff]
    simp only [Bool.and_eq_true,beq_iff_eq,decide_eq_true_eq,List.length_cons]
    constructor
    ·rintro ⟨rfl,rfl⟩;exact ⟨rfl,by omega,rfl⟩
    ·rintro ⟨rfl,-,h3⟩;exact ⟨rfl,(show d = 61 from h3).symm⟩
  have hS:signsL = [61,61] :: ([123,125,40,41,59,44,61,60,43,45,42,47,37,38,33].map fun x => [x]):=rfl
  unfold sigV tokV
  rw [if_neg h,ht,hS,List.find?_cons,hp]
  by_cases h2:c = 61 ∧ 1 < (c :: r).length ∧ (c :: r).getD 1 0 = 61
  ·rw [decide_eq_true h2,if_pos h2];rfl
  ·rw [decide_eq_false h2,if_neg h2]
   simp only [find_one]
   by_cases h3:signB c = true
   ·rw [if_pos (show List.contains [123,125,40,41,59,44,61,60,43,45,42,47,37,38,33] c = true from h3),if_pos h3];rfl
   ·rw [if_neg (show ¬ List.contains [123,125,40,41,59,44,61,60,43,45,42,47,37,38,33] c = true from h3),if_neg h3]
theorem tok_name {t:List UInt8} (hl:letB (t.getD 0 0) = true):tok t = if 32 < runB wordB t then .error 1800 else .ok (1,t.take (runB wordB t),0,runB wordB t):=by
 unfold tok;rw [if_pos hl]
theorem tok_num {t:List UInt8} (hl:letB (t.getD 0 0) = false) (hd:isD (t.getD 0 0) = true):tok t = match ofT (t.take (numEnd t)) with
  | none=>.error 1802
  | some x=>if decide (numEnd t < t.length) && (letB (t.getD (numEnd t) 0) || t.getD (numEnd t) 0 == 46) then .error 1802 else .ok (2,t.take (numEnd t),x,numEnd t):=by
 unfold tok;rw [if_neg (by rw [hl];exact Bool.false_ne_true),if_pos hd];rfl
theorem tok_str {t:List UInt8} (hl:letB (t.getD 0 0) = false) (hd:isD (t.getD 0 0) = false) (hq:t.getD 0 0 = 34):tok t = match qtS false (t.drop 1) with
  | none=>.error 1801
  | some x=>if 1024 < x.1.length then .error 1801 else .ok (3,x.1,0,x.2 + 1):=by
 unfold tok;rw [if_neg (by rw [hl];exact Bool.false_ne_true),if_neg (by rw [hd];exact Bool.false_ne_true),if_pos hq];rfl
theorem tab_below {w W:World} (h:Lib.TabIs Tryz.prog w "strings.asciiSpace" .u8 Lib.asciiSpaceTab) (hb:Below w.heap.size w W):Lib.TabIs Tryz.prog W "strings.asciiSpace" .u8 Lib.asciiSpaceTab:=by
 obtain ⟨g,hg⟩:∃ g,(Tryz.prog).globalNamed "strings.asciiSpace" = some g:=by
  cases hg:(Tryz.prog).globalNamed "strings.asciiSpace" with
  | none=>unfold Lib.TabIs World.var? at h;simp [hg] at h
  | some g=>exact ⟨g,rfl⟩
 exact Go.Joins.tab_stays hg h hb (Nat.le_refl _)
theorem fields_signs (W:World) (htab:Lib.TabIs Tryz.prog W "strings.asciiSpace" .u8 Lib.asciiSpaceTab) :
  Calls Tryz.prog 137 #[.string signsT] W fun e w'=>e = .returned (.slice (some ⟨W.heap.size,0,none⟩) 16 16) ∧ SgAt w' W.heap.size ∧ Below W.heap.size W w':=by
 have hasc:∀ (j:Nat) b,signsT.data.toList[j]? = some b → b.toNat < 128:=by
  intro j b hb
  have h2:∀ q ∈ signsT.data.toList,q.toNat < 128:=by decide
  exact h2 b (List.mem_of_getElem? hb)
 refine (Tryz.strings_Fields_laid signsT W (by decide) hasc htab).mono ?_
 rintro e w' ⟨rfl,rfl⟩
 rw [signs_fields]
 exact ⟨rfl,blk_new _ _,(Below.refl _ _).alloc (Nat.le_refl _) _⟩
set_option maxHeartbeats 1000000 in
theorem token_any (s:ByteArray) (a:Nat) (w:World) (ha:a ≤ s.size) (hs:s.size ≤ 1000000000) (htab:Lib.TabIs Tryz.prog w "strings.asciiSpace" .u8 Lib.asciiSpaceTab) :
  Calls Tryz.prog 96 #[scV s a] w fun e w'=>e = .returned (tokV s a (s.data.toList.drop a)) ∧ Below w.heap.size w w':=by
 have HR:Hid (∀ W,Calls Tryz.prog 127 #[scV s a] W fun e w'=>e = .returned (.string (s.extract a s.size)) ∧ Below W.heap.size W w'):=fun W=>rest_any s a W ha (by omega)
 have hRL:=ext_list s a
 have hRS:=ext_size s a ha
 generalize s.extract a s.size = R at HR hRL hRS
 rw [← hRL]
 have hlen:=list_len R
 by_cases he:R.data.toList = []
 ·rw [show tokV s a R.data.toList = .tuple #[tkV 0 ⟨#[]⟩ 0 a,scV s a,.int .i64 0] from if_pos he]
  exact tk_end s R a w (by rw [ByteArray.toList_eq];exact he) HR
 ·have h0:0 < R.size:=by rw [← hlen];exact List.length_pos_iff.2 he
  have hE:R.toList.isEmpty = false:=by
   rw [ByteArray.toList_eq]
   cases hh:R.data.toList with
   | nil=>exact absurd hh he
   | cons _ _=>rfl
  have hz:R.size ≤ 1000000000:=by omega
  have hab:a + R.size ≤ 2000000000:=by omega
  have hg:∀ i (h:i < R.size),R.data.toList.getD i 0 = R[i]:=by
   intro i h
   rw [List.getD_eq_getElem?_getD,List.getElem?_eq_getElem (by rw [hlen];exact h)]
   rfl
  have ht0:=hg 0 h0
  have HL:Hid (∀ W,Calls Tryz.prog 132 #[.int .u8 (R[0].toNat:Int)] W fun e w'=>e = .returned (.bool (letB R[0])) ∧ W = w'):=fun W=>let1_any R[0] W
  have HD:Hid (∀ W,Calls Tryz.prog 134 #[.int .u8 (R[0].toNat:Int)] W fun e w'=>e = .returned (.bool (isD R[0])) ∧ W = w'):=fun W=>dig1_any R[0] W
  generalize hLl:R.data.toList = L at *
  cases hl:letB R[0] with
  | true =>
   rw [hl] at HL
   have hn:runB wordB L ≤ R.size:=by rw [← hlen];exact runB_le _ _
   have HN:Hid (∀ W,Calls Tryz.prog 126 #[.string R,.func (.func 133) #[] #[]] W fun e w'=>e = .returned (.int .i64 (runB wordB L)) ∧ W = w'):=fun W=>by
    have:=run_word R W (by omega)
    rw [hLl] at this;exact this
   have ht:=tok_name (t:=L) (by rw [ht0];exact hl)
   by_cases h32:32 < runB wordB L
   ·rw [if_pos h32] at ht
    rw [tokV_bad he ht]
    exact tk_long s R a w hz hab h0 hE HR HL _ hn HN h32
   ·rw [if_neg h32] at ht
    rw [tokV_ok he ht]
    exact tk_name s R a w hz hab h0 hE HR HL _ hn HN (by omega) _ (by rw [ext_take,hLl])
  | false =>
   rw [hl] at HL
   cases hd:isD R[0] with
   | true =>
    rw [hd] at HD
    have hn0:runB isD L ≤ R.size:=by rw [← hlen];exact runB_le _ _
    have hnn:numEnd L ≤ R.size:=by rw [← hlen];exact numEnd_le _
    have HN:Hid (∀ W,Calls Tryz.prog 126 #[.string R,.func (.func 134) #[] #[]] W fun e w'=>e = .returned (.int .i64 (runB isD L)) ∧ W = w'):=fun W=>by
     have:=run_dig R W (by omega)
     rw [hLl] at this;exact this
    have ht:=tok_num (t:=L) (by rw [ht0];exact hl) (by rw [ht0];exact hd)
    have hne:numEnd L = if decide (runB isD L + 1 < L.length) && L.getD (runB isD L) 0 == 46 && isD (L.getD (runB isD L + 1) 0) then runB isD L + 1 + runB isD (L.drop (runB isD L + 1)) else runB isD L:=rfl
    have HM:∀ k,k ≤ R.size → Hid (∀ W,Calls Tryz.prog 126 #[.string (R.extract k R.size),.func (.func 134) #[] #[]] W fun e w'=>e = .returned (.int .i64 (runB isD (L.drop k))) ∧ W = w'):=fun k hk W=>by
     have:=run_dig (R.extract k R.size) W (by rw [ext_size R k hk];omega)
     rw [ext_list R k,hLl] at this;exact this
    have HX:Hid (∀ W,Calls Tryz.prog 135 #[.string ⟨(L.take (numEnd L)).toArray⟩] W fun e w'=>e = .returned (ofE (L.take (numEnd L))) ∧ Below W.heap.size W w'):=fun W=>OfText_any _ W (by rw [List.length_take];omega)
    obtain ⟨b,hb⟩:∃ b,(decide (runB isD L + 1 < L.length) && L.getD (runB isD L) 0 == 46 && isD (L.getD (runB isD L + 1) 0)) = b:=⟨_,rfl⟩
    rw [hb] at hne
    have hnx:R.extract 0 (numEnd L) = ⟨(L.take (numEnd L)).toArray⟩:=by rw [ext_take,hLl]
    have HQ:Hid ((b = false ∧ numEnd L = runB isD L) ∨ (b = true ∧ runB isD L + 1 < R.size ∧ ∃ m:Nat,Hid (∀ W,Calls Tryz.prog 126 #[.string (R.extract (runB isD L + 1) R.size),.func (.func 134) #[] #[]] W fun e w'=>e = .returned (.int .i64 m) ∧ W = w') ∧ numEnd L = runB isD L + (1 + m))):=by
     cases b with
     | false=>exact .inl ⟨rfl,hne⟩
     | true =>
      simp only [Bool.and_eq_true,decide_eq_true_eq] at hb
      have h1:runB isD L + 1 < R.size:=by rw [← hlen];exact hb.1.1
      refine .inr ⟨rfl,h1,_,HM _ (by omega),?_⟩
      rw [hne,if_pos rfl];omega
    have HP:Hid ((R.size ≤ runB isD L + 1 ∧ b = false) ∨ (∃ h:runB isD L + 1 < R.size,((R[runB isD L].toNat:Int) == 46) = false ∧ b = false) ∨
      (∃ h:runB isD L + 1 < R.size,((R[runB isD L].toNat:Int) == 46) = true ∧ Hid (∀ W,Calls Tryz.prog 134 #[.int .u8 (R[runB isD L + 1].toNat:Int)] W fun e w'=>e = .returned (.bool b) ∧ W = w'))):=by
     by_cases h1:runB isD L + 1 < R.size
     ·have e1:=hg (runB isD L) (by omega)
      have e2:=hg (runB isD L + 1) h1
      rw [e1,e2,decide_eq_true (show runB isD L + 1 < L.length by rw [hlen];exact h1),Bool.true_and] at hb
      by_cases h2:R[runB isD L] = 46
      ·rw [h2] at hb
       refine .inr (.inr ⟨h1,by rw [h2];rfl,?_⟩)
       intro W
       have:=dig1_any R[runB isD L + 1] W
       rw [show isD R[runB isD L + 1] = b by rw [← hb];rfl] at this
       exact this
      ·rw [beq_eq_false_iff_ne.2 h2,Bool.false_and] at hb
       refine .inr (.inl ⟨h1,?_,hb.symm⟩)
       rw [beq_eq_false_iff_ne]
       intro e
       exact h2 (UInt8.toNat_inj.1 (by show R[runB isD L].toNat = 46;omega))
     ·rw [decide_eq_false (by rw [hlen];exact h1),Bool.false_and,Bool.false_and] at hb
      exact .inl ⟨by omega,hb.symm⟩
    have HSuf:∀ x,ofT (L.take (numEnd L)) = some x → Hid ((R.size ≤ numEnd L ∧ tokV s a L = .tuple #[tkV 2 ⟨(L.take (numEnd L)).toArray⟩ x a,scV s ((a + numEnd L:Nat):Int),.int .i64 0]) ∨
      (∃ h:numEnd L < R.size,Hid (∀ W,Calls Tryz.prog 132 #[.int .u8 (R[numEnd L].toNat:Int)] W fun e w'=>e = .returned (.bool true) ∧ W = w') ∧ tokV s a L = .tuple #[tkV 0 ⟨#[]⟩ 0 a,scV s a,.int .i64 1802]) ∨
      (∃ h:numEnd L < R.size,Hid (∀ W,Calls Tryz.prog 132 #[.int .u8 (R[numEnd L].toNat:Int)] W fun e w'=>e = .returned (.bool false) ∧ W = w') ∧ ((R[numEnd L].toNat:Int) == 46) = true ∧ tokV s a L = .tuple #[tkV 0 ⟨#[]⟩ 0 a,scV s a,.int .i64 1802]) ∨
      (∃ h:numEnd L < R.size,Hid (∀ W,Calls Tryz.prog 132 #[.int .u8 (R[numEnd L].toNat:Int)] W fun e w'=>e = .returned (.bool false) ∧ W = w') ∧ ((R[numEnd L].toNat:Int) == 46) = false ∧ tokV s a L = .tuple #[tkV 2 ⟨(L.take (numEnd L)).toArray⟩ x a,scV s ((a + numEnd L:Nat):Int),.int .i64 0])):=by
     intro x hx
     rw [hx] at ht
     simp only at ht
     by_cases h1:numEnd L < R.size
     ·rw [decide_eq_true (show numEnd L < L.length by rw [hlen];exact h1),Bool.true_and,hg (numEnd L) h1] at ht
      have hlt:=fun W=>let1_any R[numEnd L] W
      cases hlx:letB R[numEnd L] with
      | true =>
       rw [hlx] at hlt
       rw [hlx,Bool.true_or,if_pos rfl] at ht
       exact .inr (.inl ⟨h1,hlt,tokV_bad he ht⟩)
      | false =>
       rw [hlx] at hlt
       rw [hlx,Bool.false_or] at ht
       by_cases h2:R[numEnd L] = 46
       ·rw [if_pos (by rw [h2];rfl)] at ht
        exact .inr (.inr (.inl ⟨h1,hlt,by rw [h2];rfl,tokV_bad he ht⟩))
       ·rw [if_neg (by rw [beq_eq_false_iff_ne.2 h2];exact Bool.false_ne_true)] at ht
        refine .inr (.inr (.inr ⟨h1,hlt,?_,tokV_ok he ht⟩))
        rw [beq_eq_false_iff_ne]
        intro e
        exact h2 (UInt8.toNat_inj.1 (by show R[numEnd L].toNat = 46;omega))
     ·rw [decide_eq_false (by rw [hlen];exact h1),Bool.false_and,if_neg Bool.false_ne_true] at ht
      exact .inl ⟨by omega,tokV_ok he ht⟩
    cases hx:ofT (L.take (numEnd L)) with
    | none =>
     rw [show ofE (L.take (numEnd L)) = .tuple #[fv 0,.int .i64 200] by unfold ofE;rw [hx]] at HX
     rw [hx] at ht
     exact lex.tk_num s R a w hz hab h0 hE HR HL HD _ _ b hn0 hnn HN HP HQ _ hnx 0 200 HX _ (.inl ⟨by decide,tokV_bad he ht⟩)
    | some x =>
     rw [show ofE (L.take (numEnd L)) = .tuple #[fv x,.int .i64 0] by unfold ofE;rw [hx]] at HX
     refine lex.tk_num s R a w hz hab h0 hE HR HL HD _ _ b hn0 hnn HN HP HQ _ hnx x 0 HX _ (.inr ?_)
     rcases (HSuf x hx).out with ⟨h1,h2⟩ | ⟨h1,h2,h3⟩ | ⟨h1,h2,h3,h4⟩ | ⟨h1,h2,h3,h4⟩
     ·exact .inl ⟨rfl,h1,h2⟩
     ·exact .inr (.inl ⟨rfl,h1,h2,h3⟩)
     ·exact .inr (.inr (.inl ⟨rfl,h1,h2,h3,h4⟩))
     ·exact .inr (.inr (.inr ⟨rfl,h1,h2,h3,h4⟩))
   | false =>
    rw [hd] at HD
    cases hq:((R[0].toNat:Int) == 34) with
    | true =>
     have e34:=u8_eq (n:=34) (by decide) hq
     have ht:=tok_str (t:=L) (by rw [ht0];exact hl) (by rw [ht0];exact hd) (by rw [ht0];exact e34)
     have HT:Hid (∀ W,Calls Tryz.prog 136 #[.string R] W fun e w'=>e = .returned (.tuple #[.string ⟨(textR L).1.toArray⟩,.int .i64 (textR L).2]) ∧ Below W.heap.size W w'):=fun W=>by
      have:=text_any R W hz h0
      rw [hLl] at this;exact this
     cases hqt:qtS false (L.drop 1) with
     | none =>
      rw [hqt] at ht
      have htx:textR L = ([],0):=by unfold textR;rw [hqt]
      rw [htx] at HT
      rw [tokV_bad he ht]
      exact tk_strbad s R a w hz hab h0 hE HR HL HD hq _ 0 HT rfl
     | some x =>
      rw [hqt] at ht
      have htx:textR L = if 1024 < x.1.length then ([],0) else (x.1,x.2 + 1):=by unfold textR;rw [hqt]
      have hxl:=qt_le _ _ _ hqt
      rw [List.length_drop,hlen] at hxl
      simp only at ht
      by_cases hb:1024 < x.1.length
      ·rw [if_pos hb] at ht htx
       rw [htx] at HT
       rw [tokV_bad he ht]
       exact tk_strbad s R a w hz hab h0 hE HR HL HD hq _ 0 HT rfl
      ·rw [if_neg hb] at ht htx
       rw [htx] at HT
       rw [tokV_ok he ht]
       exact tk_str s R a w hz hab h0 hE HR HL HD hq _ _ HT (by omega) (by omega)
    | false =>
     have n34:=u8_ne (n:=34) (by decide) hq
     have:=tk_sign s R a w hz hab h0 hE HR HL HD hq (fun W hW=>fields_signs W (tab_below htab hW))
     rw [hLl] at this
     rw [← sig_tok s a L he (by rw [ht0];exact hl) (by rw [ht0];exact hd) (by rw [ht0];exact n34)]
     exact this
end Go.Proofs.YtmfpmandkhiknaaGreatDoor.lex
namespace Go.Proofs.YtmfpmandkhiknaaGreatDoor.lex
open Go.RowKit
open flt (isD fv ofT ofE OfText_any str_size)
open heap
open num (list_len drop_cons ret_pair bcell)
set_option maxRecDepth 100000
attribute [local go_sem] run_store_float
theorem add0 (g j:Nat):(⟨g,0,none⟩:Addr).add j = ⟨g,j,none⟩:=by unfold Addr.add;split <;> simp_all
def tkC (t:Tk):List Value := [.int .i64 t.kind,.string ⟨t.text.toArray⟩,.float .f64 t.num,.int .i64 t.at']
def tkCs (ts:List Tk):List Value:=ts.flatMap tkC
theorem tkCs_get (ts:List Tk) (j:Nat) (m:Tk) (h:ts[j]? = some m):(tkCs ts)[j * 4]? = some (.int .i64 m.kind) ∧ (tkCs ts)[j * 4 + 1]? = some (.string ⟨m.text.toArray⟩) ∧ (tkCs ts)[j * 4 + 2]? = some (.float .f64 m.num) ∧ (tkCs ts)[j * 4 + 3]? = some (.int .i64 m.at'):=by
 induction ts generalizing j with
 | nil=>simp at h
 | cons x ms ih =>
  have e:tkCs (x :: ms) = tkC x ++ tkCs ms:=rfl
  rw [e]
  cases j with
  | zero =>
   simp at h
   subst h
   exact ⟨rfl,rfl,rfl,rfl⟩
  | succ j =>
   have:=ih j (by simpa using h)
   have l3:(tkC x).length = 4:=rfl
   rw [List.getElem?_append_right (by rw [l3];omega),List.getElem?_append_right (by rw [l3];omega),List.getElem?_append_right (by rw [l3];omega),List.getElem?_append_right (by rw [l3];omega),l3]
   rw [show (j + 1) * 4 - 4 = j * 4 by omega,show (j + 1) * 4 + 1 - 4 = j * 4 + 1 by omega,show (j + 1) * 4 + 2 - 4 = j * 4 + 2 by omega,show (j + 1) * 4 + 3 - 4 = j * 4 + 3 by omega]
   exact this
def TRow (w:World) (base:Nat) (v:Value) (ts:List Tk):Prop:=w.ownsRow base 98 4 v ts.length (tkCs ts)
theorem trow_kept {w w':World} {base:Nat} {v:Value} {ts:List Tk} (h:TRow w base v ts) (hk:∀ g o,v.ownBlock = some g → w.heap[g]? = some o → w'.heap[g]? = some o):TRow w' base v ts:=by
 obtain ⟨hl,h1 | ⟨g,c,cur,rfl,h2,h3,h4⟩⟩:=h
 ·exact ⟨hl,.inl h1⟩
 ·exact ⟨hl,.inr ⟨g,c,cur,rfl,h2,hk g _ rfl h3,h4⟩⟩
theorem TRow.below {w w':World} {base:Nat} {v:Value} {ts:List Tk} (h:TRow w base v ts) (hb:Below w.heap.size w w'):TRow w' base v ts:=trow_kept h (fun g o hg ho=>blk_below ho hb)
theorem TRow.slice {w:World} {base:Nat} {v:Value} {ts:List Tk} (h:TRow w base v ts):∃ a c,v = .slice a ts.length c:=by
 obtain ⟨_,⟨h,h0⟩ | ⟨_,_,_,h,_⟩⟩:=h
 ·exact ⟨none,0,by rw [h,h0]⟩
 ·exact ⟨_,_,h⟩
theorem TRow.cells {w:World} {base:Nat} {v:Value} {ts:List Tk} (h:TRow w base v ts):(v = .slice none 0 0 ∧ ts = []) ∨ ∃ g c,v = .slice (some ⟨g,0,none⟩) ts.length c ∧ g < w.heap.size ∧ base ≤ g ∧ ts.length ≤ c ∧ c ≤ maxLen ∧
  ∀ j m,ts[j]? = some m → w.cell? ⟨g,j * 4,none⟩ = some (.int .i64 m.kind) ∧ w.cell? ⟨g,j * 4 + 1,none⟩ = some (.string ⟨m.text.toArray⟩) ∧ w.cell? ⟨g,j * 4 + 2,none⟩ = some (.float .f64 m.num) ∧ w.cell? ⟨g,j * 4 + 3,none⟩ = some (.int .i64 m.at'):=by
 have hlt:=World.ownsRow.lt h
 have hcl := @World.ownsRow.cells _ _ _ _ _ _ _ h
 obtain ⟨hl,⟨h1,h2⟩ | ⟨g,c,cur,hv,h2,h3,h4,h5,h6,h7⟩⟩:=h
 ·exact .inl ⟨h1,List.length_eq_zero_iff.1 h2⟩
 ·refine .inr ⟨g,c,hv,(hlt g (by rw [hv];rfl)).2,h2,h4,h5,fun j m hm => ?_⟩
  obtain ⟨e0,e1,e2,e3⟩:=tkCs_get ts j m hm
  have k0:=hcl (g:=g) (by rw [hv];rfl) _ _ e0
  have k1:=hcl (g:=g) (by rw [hv];rfl) _ _ e1
  have k2:=hcl (g:=g) (by rw [hv];rfl) _ _ e2
  have k3:=hcl (g:=g) (by rw [hv];rfl) _ _ e3
  rw [add0] at k0 k1 k2 k3
  exact ⟨k0,k1,k2,k3⟩
theorem TRow.ne {w:World} {base b k:Nat} {v:Value} {ts:List Tk} {s:ByteArray} (h:TRow w base v ts) (hs:ScAt w b s k):b ∉ v.ownBlock.toList:=by
 intro hm
 obtain ⟨_,⟨hv,_⟩ | ⟨g,c,cur,rfl,h2,h3,_⟩⟩:=h
 ·rw [hv] at hm;simp [Value.ownBlock] at hm
 ·have hg:b = g:=by simpa [Value.ownBlock] using hm
  subst hg
  unfold ScAt at hs
  rw [hs] at h3
  simp at h3
theorem TRow.own_lt {w:World} {base:Nat} {v:Value} {ts:List Tk} (h:TRow w base v ts):∀ g ∈ v.ownBlock.toList,base ≤ g ∧ g < w.heap.size:=by
 intro g hg
 have:=World.ownsRow.lt h g (by simpa using hg)
 exact this
theorem TRow.nil (w:World) (base:Nat):TRow w base (.slice none 0 0) []:=World.ownsRow_nil _ _ _ _
theorem infoT:(Tryz.prog.info? 98).map (fun i=>(i.zero,i.size,i.bytes)) = some (some (.agg #[.int .i64 0,.string ⟨#[]⟩,.float .f64 0,.int .i64 0]),4,40):=by kernel_rfl
theorem app_tok (B g:Nat) (v:Value) (ts:List Tk) (t:Tk) (w:World) (h:TRow w B v ts) (hg:w.heap[g]? = some (.cells #[.int .i64 t.kind,.string ⟨t.text.toArray⟩,.float .f64 t.num,.int .i64 t.at'] 98 (0,0))) (hB:B ≤ w.heap.size) (hn:ts.length ≤ 100000) :
  ∃ v2 w2,(Builtin.append_ #[100,100] 100 #[v,.slice (some ⟨g,0,none⟩) 1 1]).run Tryz.prog w = .ok v2 w2 ∧ TRow w2 B v2 (ts ++ [t]) ∧ Turned v.ownBlock.toList w w2:=by
 obtain ⟨i0,hi,hz0,hz1,hz2⟩:=info_parts infoT
 obtain ⟨v2,w2,hrun,hown,hgr,_⟩:=run_append_own (P:=Tryz.prog) w B 100 100 98 i0 _ 4 40 Tryz.underlying100 hi hz0 hz1 hz2 rfl (by decide) v ts.length _ h ⟨g,0,none⟩ 1 1 (tkC t) rfl (fun j u hu=>by rw [add0,blk_cell hg];simpa [tkC] using hu) (by simp [tkC,Value.oneCell']) (by unfold maxLen;omega) (by omega) hB
 refine ⟨v2,w2,hrun,?_,⟨hgr.os,hgr.tape,hgr.output,hgr.size,fun b hb hn=>hgr.block b hb (fun e=>hn (by simp [← e]))⟩⟩
 unfold TRow
 rw [List.length_append]
 have e:tkCs (ts ++ [t]) = tkCs ts ++ tkC t:=by simp [tkCs]
 rw [e];exact hown
theorem tok_err {t:List UInt8} {e:Int} (h:tok t = .error e):e ≠ 0:=by
 unfold tok at h
 repeat' split at h
 all_goals (cases h;try decide)
theorem tok_kind {t:List UInt8} {x:Int × List UInt8 × Nat × Nat} (h:tok t = .ok x):x.1 ≠ 0:=by
 unfold tok at h
 repeat' split at h
 all_goals (cases h;try simp)
structure At (L:List UInt8) (ts:List Tk) (k f:Nat):Prop where
 le:k ≤ L.length
 few:ts.length ≤ k
 fuel:L.length - k < f
 one:ts ++ (scanF f (L.drop k) k).1 = (scanL L).1
 two:(scanF f (L.drop k) k).2 = (scanL L).2
theorem At.start {L:List UInt8} (h:¬ 16384 < L.length):At L [] (skp false L) (L.length + 1):=by
 refine ⟨skp_le _ _,by simp,by omega,?_,?_⟩
 ·unfold scanL;rw [if_neg h];rfl
 ·unfold scanL;rw [if_neg h]
theorem At.end' {L:List UInt8} {ts:List Tk} {k f:Nat} (h:At L ts k f) (ht:L.drop k = []):(scanL L).1 = ts ++ [⟨0,[],0,k⟩] ∧ (scanL L).2 = (0,0):=by
 cases f with
 | zero=>have:=h.fuel;omega
 | succ f =>
  have e:scanF (f + 1) (L.drop k) k = ([⟨0,[],0,k⟩],0,0):=by rw [scanF,if_pos ht]
  rw [← h.one,← h.two,e];exact ⟨rfl,rfl⟩
theorem At.bad {L:List UInt8} {ts:List Tk} {k f:Nat} {e:Int} (h:At L ts k f) (h0:L.drop k ≠ []) (ht:tok (L.drop k) = .error e):(scanL L).2 = (k,e):=by
 cases f with
 | zero=>have:=h.fuel;omega
 | succ f =>
  rw [← h.two,scanF,if_neg h0,ht]
theorem At.next {L:List UInt8} {ts:List Tk} {k f:Nat} {kd:Int} {u:List UInt8} {x n:Nat} (h:At L ts k f) (h0:L.drop k ≠ []) (ht:tok (L.drop k) = .ok (kd,u,x,n)) :
  k + n ≤ L.length ∧ 1 ≤ n ∧ ∃ f',At L (ts ++ [⟨kd,u,x,k⟩]) (k + n + skp false (L.drop (k + n))) f':=by
 have hl:=tok_len h0 ht
 rw [List.length_drop] at hl
 simp only at hl
 have hk:=h.le
 refine ⟨by omega,hl.1,?_⟩
 cases f with
 | zero=>have:=h.fuel;omega
 | succ f =>
  have hs:=skp_le false (L.drop (k + n))
  rw [List.length_drop] at hs
  have h1:=h.one
  have h2:=h.two
  rw [scanF,if_neg h0,ht] at h1 h2
  simp only [List.drop_drop] at h1 h2
  refine ⟨f,by omega,by have:=h.few;simp;omega,by have:=h.fuel;omega,?_,?_⟩
  ·rw [← h1,List.append_assoc];rfl
  ·exact h2
abbrev tokO (t:Tk):Obj:=.cells #[.int .i64 t.kind,.string ⟨t.text.toArray⟩,.float .f64 t.num,.int .i64 t.at'] 98 (0,0)
abbrev rW (w2:World) (s:ByteArray) (t:Tk) (k2:Nat):World:=((w2.alloc (tokO t)).alloc (.cells #[.string s,.int .i64 k2] 150)).alloc (tokO t)
theorem TRow.set {w:World} {base b k:Nat} {v:Value} {ts:List Tk} {s:ByteArray} (h:TRow w base v ts) (hs:ScAt w b s k) (i:Nat) (u:Value):TRow (w.setCell ⟨b,i,none⟩ u) base v ts:=
 trow_kept h (fun g o hg ho=>by
  rw [blk_other (fun e=>h.ne hs (by rw [← e];simpa using hg))];exact ho)
theorem round_app (w w2:World) (b k k2:Nat) (s:ByteArray) (v:Value) (ts:List Tk) (t:Tk) (hsc:ScAt w2 b s k) (hrow:TRow w2 w.heap.size v ts) (hbl:Below w.heap.size w w2) (hn:ts.length ≤ 100000) :
  ∃ v2 w5,(Builtin.append_ #[100,100] 100 #[v,.slice (some ⟨w2.heap.size + 1 + 1,0,none⟩) 1 1]).run Tryz.prog (rW w2 s t k2) = .ok v2 w5 ∧ TRow w5 w.heap.size v2 (ts ++ [t]) ∧
   TkAt w5 w2.heap.size t.kind ⟨t.text.toArray⟩ t.num t.at' ∧ ScAt w5 (w2.heap.size + 1) s k2 ∧ ScAt w5 b s k ∧ Below w.heap.size w w5 ∧ w2.heap.size + 3 ≤ w5.heap.size:=by
 have hz:(rW w2 s t k2).heap.size = w2.heap.size + 1 + 1 + 1:=by simp [rW]
 have b2:Below w2.heap.size w2 (rW w2 s t k2):=(((Below.refl _ _).alloc (Nat.le_refl _) _).alloc (by simp) _).alloc (by simp;omega) _
 have hlt:∀ g ∈ v.ownBlock.toList,w.heap.size ≤ g ∧ g < w2.heap.size:=hrow.own_lt
 have n1:(w2.alloc (tokO t)).heap.size = w2.heap.size + 1:=by simp
 have n2:((w2.alloc (tokO t)).alloc (.cells #[.string s,.int .i64 k2] 150)).heap.size = w2.heap.size + 1 + 1:=by simp
 have g1:(rW w2 s t k2).heap[w2.heap.size]? = some (tokO t):=blk_old (blk_old (blk_new _ _) _) _
 have g2:(rW w2 s t k2).heap[w2.heap.size + 1]? = some (.cells #[.string s,.int .i64 k2] 150):=by
  have:=blk_new (w2.alloc (tokO t)) (.cells #[.string s,.int .i64 k2] 150)
  rw [n1] at this
  exact blk_old this _
 have g3:(rW w2 s t k2).heap[w2.heap.size + 1 + 1]? = some (tokO t):=by
  have:=blk_new ((w2.alloc (tokO t)).alloc (.cells #[.string s,.int .i64 k2] 150)) (tokO t)
  rw [n2] at this
  exact this
 obtain ⟨v2,w5,h1,h2,h3⟩:=app_tok w.heap.size (w2.heap.size + 1 + 1) v ts t (rW w2 s t k2) (hrow.below b2) g3 (by rw [hz];have:=hbl.size;omega) hn
 refine ⟨v2,w5,h1,h2,?_,?_,?_,?_,?_⟩
 ·exact h3.kept g1 (fun hm=>by have:=hlt _ hm;omega)
 ·exact h3.kept g2 (fun hm=>by have:=hlt _ hm;omega)
 ·exact h3.kept (hsc.below b2) (fun hm=>hrow.ne hsc hm)
 ·refine ((hbl.trans (b2.mono hbl.size)).trans (h3.below ?_ (fun g hg=>(hlt g hg).1)))
  rw [hz];have:=hbl.size;omega
 ·have:=h3.size;rw [hz] at this;omega
set_option maxHeartbeats 4000000 in
theorem Tokens_any (s:ByteArray) (w:World) (hs:s.size ≤ 1000000000) (htab:Lib.TabIs Tryz.prog w "strings.asciiSpace" .u8 Lib.asciiSpaceTab) :
  Calls Tryz.prog 68 #[.string s] w fun e w'=>∃ v,e = .returned (.tuple #[v,.int .i64 (scanL s.data.toList).2.1,.int .i64 (scanL s.data.toList).2.2]) ∧ ((scanL s.data.toList).2.2 = 0 → TRow w' w.heap.size v (scanL s.data.toList).1) ∧ ((scanL s.data.toList).2.2 ≠ 0 → v = .slice none 0 0) ∧ Below w.heap.size w w':=by
 have hlen:=list_len s
 by_cases hbig:16384 < s.size
 ·have HS:Hid (scanL s.data.toList = ([],0,1803)):=by unfold Hid scanL;rw [if_pos (by rw [hlen];exact hbig)]
  have hd:decide (16384 < (s.size:Int)) = true:=decide_eq_true (by omega)
  rw [HS.out]
  clear htab
  go_enter Tryz.func68,Tryz.ntmps68
  go_wp2_with fail
  exact bodyPost_ret (v:=.tuple #[.slice none 0 0,.int .i64 0,.int .i64 1803]) (by simp [results,Tryz.results68,go_sem]) rfl ⟨_,rfl,fun h=>absurd h (by decide),fun _=>rfl,Below.refl _ _⟩
 ·have hd:decide (16384 < (s.size:Int)) = false:=decide_eq_false (by omega)
  have HAT:=Lib.hid (At.start (L:=s.data.toList) (by rw [hlen];exact hbig))
  have HBK:Hid (∀ W,Calls Tryz.prog 95 #[scV s 0] W fun e w'=>e = .returned (scV s ((skp false s.data.toList:Nat):Int)) ∧ Below W.heap.size W w'):=fun W=>by
   have:=blanks_any s 0 W (Nat.zero_le _) (by omega)
   rw [Nat.zero_add,List.drop_zero] at this
   exact this
  have HTAB:=Lib.hid htab
  clear htab
  generalize hLx:scanL s.data.toList = lx at *
  have HLX:=Lib.hid hLx
  clear hLx
  go_enter Tryz.func68,Tryz.ntmps68
  go_wp2_with fail
  refine (HBK.out _).mono ?_;rintro e w1 ⟨rfl,hb1⟩
  have HB1:=Lib.hid hb1
  clear hb1
  go_wp2_with fail
  go_loopw [5,6] (fun vo vc wr=>∃ (ts:List Tk) (k f b:Nat),vc = .pointer (some ⟨b,0,none⟩) ∧ Hid (At s.data.toList ts k f ∧ ScAt wr b s k ∧ TRow wr w.heap.size vo ts ∧ w.heap.size ≤ b ∧ Below w.heap.size w wr)) (fun _ vc wr=>s.size - cellN (wr.cell? ⟨(match vc with | .pointer (some a)=>a.block | _=>0),1,none⟩))
  case atStart =>
   refine ⟨[],_,_,_,rfl,HAT.out,?_,TRow.nil _ _,HB1.out.size,HB1.out.alloc HB1.out.size _⟩
   exact blk_new _ _
  case round =>
   obtain ⟨ts,k,f,b,rfl,hr⟩:=hrel
   obtain ⟨hat,hsc,hrow,hwb,hbl⟩:=hr.out
   obtain ⟨a1,c1',rfl⟩:=hrow.slice
   have hk:=hat.le
   have hfew:=hat.few
   rw [hlen] at hk
   have HA:=Lib.hid hat
   have HSC:=Lib.hid hsc
   have HROW:=Lib.hid hrow
   have HBL:=Lib.hid hbl
   have HTK:=Lib.hid (token_any s k wr hk (by omega) (tab_below HTAB.out hbl))
   obtain ⟨c0,c1,f0,f1,hl0⟩:=hsc.cells
   have hME:cellN (wr.cell? ⟨b,1,none⟩) = k:=by rw [c1];rfl
   have HME:=Lib.hid hME
   clear hr hat hsc hrow hbl hME
   go_wp2_with fail
   refine (HTK.out).mono ?_;rintro e w2 ⟨rfl,hb2⟩
   have HSC2:=Lib.hid (HSC.out.below hb2)
   have HROW2:=Lib.hid (HROW.out.below hb2)
   have HBL2:=Lib.hid (HBL.out.trans (hb2.mono HBL.out.size))
   have hw2:w.heap.size ≤ w2.heap.size:=Nat.le_trans HBL.out.size hb2.size
   clear hb2 HTK HSC HROW HBL c0 c1 f0 f1 hl0
   obtain ⟨c0,c1,f0,f1,hl0⟩:=HSC2.out.cells
   by_cases h0:s.data.toList.drop k = []
   ·obtain ⟨he1,he2⟩:=HA.out.end' h0
    rw [show tokV s k (s.data.toList.drop k) = .tuple #[tkV 0 ⟨#[]⟩ 0 k,scV s k,.int .i64 0] from if_pos h0]
    obtain ⟨v2,w5,hrun,hrow5,htk5,-,-,hbl5,hz5⟩:=round_app w w2 b k k s _ ts ⟨0,[],0,k⟩ HSC2.out HROW2.out HBL2.out (by omega)
    have HRUN:Hid ((Builtin.append_ #[100,100] 100 #[.slice a1 ts.length c1',.slice (some ⟨w2.heap.size + 1 + 1,0,none⟩) 1 1]).run Tryz.prog (((w2.alloc (.cells #[.int .i64 0,.string ⟨#[]⟩,.float .f64 0,.int .i64 k] 98)).alloc (.cells #[.string s,.int .i64 k] 150)).alloc (.cells #[.int .i64 0,.string ⟨#[]⟩,.float .f64 0,.int .i64 k] 98)) = .ok v2 w5):=hrun
    obtain ⟨m0,m1,m2,m3,n0,n1,n2,n3,hl3⟩:=htk5.cells
    have HROW5:=Lib.hid hrow5
    have HBL5:=Lib.hid hbl5
    have HE:Hid (lx = (ts ++ [⟨0,[],0,k⟩],0,0)):=by
     unfold Hid;rw [← HLX.out];exact Prod.ext he1 he2
    clear he1 he2 h0 hrun htk5 hrow5 hbl5
    go_wp2_with (at_builtin;refine reg.wpList_append rfl rfl rfl rfl rfl HRUN.out ?_)
    refine bodyPost_ret (v:=.tuple #[v2,.int .i64 0,.int .i64 0]) (by simp [results,Tryz.results68,go_sem]) rfl ⟨v2,by rw [HE.out];rfl,fun _ => ?_,fun h => ?_,HBL5.out⟩
    ·rw [HE.out];exact HROW5.out
    ·rw [HE.out] at h;exact absurd rfl h
   ·cases ht:tok (s.data.toList.drop k) with
    | error er =>
     have he2:=HA.out.bad h0 ht
     have her:=tok_err ht
     have her2:(er == 0) = false:=beq_eq_false_iff_ne.2 her
     rw [tokV_bad h0 ht]
     have HE2:Hid (lx.2 = (k,er)):=by unfold Hid;rw [← HLX.out];exact he2
     clear he2 ht h0
     go_wp2_with fail
     go_region
     all_goals
      go_wp2
      refine bodyPost_ret (v:=.tuple #[.slice none 0 0,.int .i64 k,.int .i64 er]) (by simp [results,Tryz.results68,go_sem]) rfl ⟨.slice none 0 0,by rw [HE2.out],fun h => ?_,fun _=>rfl,?_⟩
      ·rw [HE2.out] at h;exact absurd h her
      ·first | exact ((HBL2.out.alloc hw2 _).alloc (by simp;omega) _).drew | exact (HBL2.out.alloc hw2 _).alloc (by simp;omega) _
    | ok x =>
     obtain ⟨kd,u,x,n⟩:=x
     have hkd:kd ≠ 0:=tok_kind ht
     have hkd2:(kd == 0) = false:=beq_eq_false_iff_ne.2 hkd
     obtain ⟨hkn,hn1,f',hnx⟩:=HA.out.next h0 ht
     rw [hlen] at hkn
     rw [tokV_ok h0 ht]
     obtain ⟨v2,w5,hrun,hrow5,htk5,hnx5,hsc5,hbl5,hz5⟩:=round_app w w2 b k (k + n) s _ ts ⟨kd,u,x,k⟩ HSC2.out HROW2.out HBL2.out (by omega)
     have HRUN:Hid ((Builtin.append_ #[100,100] 100 #[.slice a1 ts.length c1',.slice (some ⟨w2.heap.size + 1 + 1,0,none⟩) 1 1]).run Tryz.prog (((w2.alloc (.cells #[.int .i64 kd,.string ⟨u.toArray⟩,.float .f64 x,.int .i64 k] 98)).alloc (.cells #[.string s,.int .i64 ((k + n:Nat):Int)] 150)).alloc (.cells #[.int .i64 kd,.string ⟨u.toArray⟩,.float .f64 x,.int .i64 k] 98)) = .ok v2 w5):=hrun
     obtain ⟨m0,m1,m2,m3,n0,n1,n2,n3,hl3⟩:=htk5.cells
     obtain ⟨p0,p1,q0,q1,hl4⟩:=hnx5.cells
     clear c0 c1 f0 f1 hl0
     obtain ⟨c0,c1,f0,f1,hl0⟩:=hsc5.cells
     have HROW5:=Lib.hid hrow5
     have HBL5:=Lib.hid hbl5
     have HSC5:=Lib.hid hsc5
     have HN:=Lib.hid hnx
     have HBN:Hid (∀ W,Calls Tryz.prog 95 #[scV s ((k + n:Nat):Int)] W fun e w'=>e = .returned (scV s ((k + n + skp false (s.data.toList.drop (k + n)):Nat):Int)) ∧ Below W.heap.size W w'):=fun W=>blanks_any s (k + n) W hkn (by omega)
     clear hrun htk5 hrow5 hbl5 hsc5 hnx5 hnx ht h0
     have hw5:w.heap.size ≤ w5.heap.size:=by omega
     go_wp2_with (at_builtin;refine reg.wpList_append rfl rfl rfl rfl rfl HRUN.out ?_)
     have e5:(((k + n:Nat):Int)) = (k:Int) + n:=by omega
     rw [e5] at HBN
     generalize hG:((w5.setCell ⟨b,0,none⟩ (.string s)).setCell ⟨b,1,none⟩ (.int .i64 ((k:Int) + n))).alloc (.cells #[.string s,.int .i64 ((k:Int) + n)] 150) = W7
     have HN7:Hid (ScAt W7 w5.heap.size s (k + n)):=by
      unfold Hid ScAt
      rw [← hG,e5]
      have:=blk_new ((w5.setCell ⟨b,0,none⟩ (.string s)).setCell ⟨b,1,none⟩ (.int .i64 ((k:Int) + n))) (.cells #[.string s,.int .i64 ((k:Int) + n)] 150)
      simpa using this
     have HR7:Hid (TRow W7 w.heap.size v2 (ts ++ [⟨kd,u,x,k⟩])):=by
      unfold Hid
      have h1:=HROW5.out.set HSC5.out 0 (.string s)
      have h2:ScAt (w5.setCell ⟨b,0,none⟩ (.string s)) b s k:=blk_set HSC5.out 0 (.string s)
      have h3:=h1.set h2 1 (.int .i64 ((k:Int) + n))
      rw [← hG]
      exact h3.below ((Below.refl _ _).alloc (Nat.le_refl _) _)
     have HB7:Hid (Below w.heap.size w W7):=by
      unfold Hid
      rw [← hG]
      exact ((HBL5.out.setCell hwb _).setCell hwb _).alloc (by simp;exact hw5) _
     clear hG HROW5 HSC5 HBL5 HRUN c0 c1 f0 f1 hl0 m0 m1 m2 m3 n0 n1 n2 n3 hl3 p0 p1 q0 q1 hl4 HROW2 HSC2 HBL2
     (with_reducible refine (HBN.out _).mono ?_);rintro e w8 ⟨rfl,hb8⟩
     have HN8:=Lib.hid (HN7.out.below hb8)
     have HR8:=Lib.hid (HR7.out.below hb8)
     have HB8:=Lib.hid (HB7.out.trans (hb8.mono HB7.out.size))
     clear hb8 HN7 HR7 HB7
     obtain ⟨c0,c1,f0,f1,hl0⟩:=HN8.out.cells
     generalize hK:k + n + skp false (s.data.toList.drop (k + n)) = k3 at *
     have hk3:k + n ≤ k3:=by omega
     have HN9:Hid (ScAt ((w8.setCell ⟨w5.heap.size,0,none⟩ (.string s)).setCell ⟨w5.heap.size,1,none⟩ (.int .i64 k3)) w5.heap.size s k3):=HN8.out.set2 s k3
     have HR9:Hid (TRow ((w8.setCell ⟨w5.heap.size,0,none⟩ (.string s)).setCell ⟨w5.heap.size,1,none⟩ (.int .i64 k3)) w.heap.size v2 (ts ++ [⟨kd,u,x,k⟩])):=by
      unfold Hid
      have h2:ScAt (w8.setCell ⟨w5.heap.size,0,none⟩ (.string s)) w5.heap.size s (k + n):=blk_set HN8.out 0 (.string s)
      exact (HR8.out.set HN8.out 0 (.string s)).set h2 1 (.int .i64 k3)
     have HB9:Hid (Below w.heap.size w ((w8.setCell ⟨w5.heap.size,0,none⟩ (.string s)).setCell ⟨w5.heap.size,1,none⟩ (.int .i64 k3))):=(HB8.out.setCell hw5 _).setCell hw5 _
     have HM9:Hid (s.size - cellN (((w8.setCell ⟨w5.heap.size,0,none⟩ (.string s)).setCell ⟨w5.heap.size,1,none⟩ (.int .i64 k3)).cell? ⟨w5.heap.size,1,none⟩) < s.size - cellN (wr.cell? ⟨b,1,none⟩)):=by
      unfold Hid
      have e1:=HN9.out.cells.2.1
      rw [e1,HME.out]
      have:=HN.out.le
      rw [hlen] at this
      show s.size - k3 < s.size - k
      omega
     clear hK
     go_wp2_with fail
     go_roundw
     case rel=>exact ⟨_,_,_,_,rfl,HN.out,HN9.out,HR9.out,hw5,HB9.out⟩
     case measure=>exact HM9.out
end Go.Proofs.YtmfpmandkhiknaaGreatDoor.lex
