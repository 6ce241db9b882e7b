/-
  Proved: a path's parent and last name (the document's Split). Conditions: as each theorem says.
  Proved: the document's tree: a node found by its path, how many are below a node. Conditions: as each theorem says.
  Proved: how many nodes lie below a node of the document's tree. Conditions: as each theorem says.
  Proved: rows of names and of nodes: a part of one appended to another. Conditions: as each theorem says.
  Proved: which guarded operations of a drawn region are wanted. Conditions: as each theorem says. No program is in sight.
-/
import Derived.Test.YtifhnpkapgaboaaGreatPj28
import Derived.Test.YtifhnpkapgaboaaGreatPj29
import Derived.Test.YtifhnpkapgaboaaGreatPj3
import Derived.Test.YtifhnpkapgaboaaGreatPj8
import Derived.Deep.AppendLies
import Derived.Deep.AppendSrc
import Derived.Deep.Upon
import Derived.ArgAppend
import Derived.Test.YtifhnpkapgaboaaGreatPj1
set_option linter.unusedVariables false
set_option linter.unusedSimpArgs false
namespace Go.Proofs.YtifhnpkapgaboaaGreat.doc
open Go Go.RowKit
open heap
open path (sv str_size cut_str joinL joinL_snoc joinL_one joinL_nil good_no)
set_option maxRecDepth 100000
def splitR (l:Nm) (e:Ending):Prop:=(∃ a b,l = a ++ 47 :: b ∧ (47:UInt8) ∉ b ∧ e = .returned (.tuple #[sv a,sv b])) ∨ ((47:UInt8) ∉ l ∧ e = .returned (.tuple #[sv [],sv l]))
set_option maxHeartbeats 1000000 in
theorem Split_any (l:Nm) (w:World) (hl:l.length ≤ 2000000):Calls Tryz.prog 55 #[sv l] w fun e w'=>splitR l e ∧ Below w.heap.size w w':=by
 have z:=str_size l
 go_enter Tryz.func55,Tryz.ntmps55
 go_wp2_with fail
 go_loopg [4] l.length (fun kk v4 wr=>∃ i:Int,kk ≤ l.length ∧ v4 = .int .i64 i ∧ i = (kk:Int) - 1 ∧ Hid ((47:UInt8) ∉ l.drop kk) ∧ w = wr)
 case atStart=>exact ⟨_,by omega,rfl,by go_num,by rw [Hid,List.drop_length];simp,rfl⟩
 case round =>
  obtain ⟨i,hle,rfl,hi,HD,rfl⟩:=hrel
  cases gk with
  | zero =>
   obtain rfl:i = -1:=by omega
   clear hi
   go_wp2_with fail
   go_ret2
   exact ⟨.inr ⟨HD.out,rfl⟩,Below.refl _ _⟩
  | succ k =>
   obtain rfl:i = (k:Int):=by omega
   clear hi
   have hkl:k < l.length:=by omega
   have hz:k < (⟨l.toArray⟩:ByteArray).size:=by rw [z];exact hkl
   obtain ⟨x,hx⟩:∃ x:UInt8,(⟨l.toArray⟩:ByteArray)[k]'hz = x:=⟨_,rfl⟩
   have HX:Hid (l[k]'hkl = x):=hx
   have HDR:Hid (l.drop k = x :: l.drop (k + 1)):=by rw [Hid,List.drop_eq_getElem_cons hkl,HX.out]
   by_cases e1:x = 47
   ·have hx1:(⟨l.toArray⟩:ByteArray).extract 0 k = ⟨(l.take k).toArray⟩:=by rw [cut_str];rfl
    have hx2:(⟨l.toArray⟩:ByteArray).extract (k + 1) l.length = ⟨(l.drop (k + 1)).toArray⟩:=by
     rw [cut_str,List.take_of_length_le (by rw [List.length_drop];omega)]
    have q1:IntKind.i64.wrap ((k:Int) + 1) = k + 1:=by rw [IntKind.wrap_i64];omega
    have i1:(k:Int) ≤ ((⟨l.toArray⟩:ByteArray).size:Nat):=by omega
    have i2:(k:Int) + 1 ≤ (l.length:Int):=by omega
    have i3:(0:Int) ≤ (k:Int) + 1:=by omega
    have i4:((k:Int) + 1).toNat = k + 1:=by omega
    have z1:k + 1 ≤ (⟨l.toArray⟩:ByteArray).size:=hz
    have HL:Hid (l = l.take k ++ 47 :: l.drop (k + 1)):=by
     rw [Hid,← e1,← HDR.out,List.take_append_drop]
    subst e1
    go_wp2_with fail
    refine reg.region_each (by kernel_rfl) reg.Ext (fun ri v w'=>match ri with
      | 0=>v = sv l
      | 1=>v = .int .i64 k
      | 2=>v = sv (l.take k)
      | 3=>v = sv l
      | 4=>v = .int .i64 k
      | 5=>v = .int .i64 (k + 1)
      | 6=>v = sv (l.drop (k + 1))
      | 7=>v = sv (l.take k)
      | 8=>v = sv (l.drop (k + 1))
      | _=>True) reg.Ext.refl reg.Ext.trans ?_ (by kernel_rfl) ?_ ?_
    ·
     intro i v w1 w2 h hx
     rcases i with _|_|_|_|_|_|_|_|_|i
     ·exact h
     ·exact h
     ·exact h
     ·exact h
     ·exact h
     ·exact h
     ·exact h
     ·exact h
     ·exact h
     ·trivial
    ·
     refine ⟨?_,?_,?_,?_,?_,?_,?_,?_,?_,trivial⟩
     ·-- 0: slot 16:=Op.move t0
      intro ra w' hx hs
      have s0:ra.eval (.tmp 0) = sv l:=hs.1
      clear hs
      change Oper.wp _ _ ra w' _ _
      refine reg.wp_value (v:=sv l) (w':=w') ?_ ⟨_,rfl,reg.Ext.refl _,rfl⟩
      intro ρ rc rf rg re
      rw [re] at s0
      simp [execOp,go_sem,rc,rf,rg,s0] <;> first | omega | rfl | decide
     ·-- 1: slot 17:=Op.move t4
      intro ra w' hx hs
      have s4:ra.eval (.tmp 4) = .int .i64 k:=hs.1
      clear hs
      change Oper.wp _ _ ra w' _ _
      refine reg.wp_value (v:=.int .i64 k) (w':=w') ?_ ⟨_,rfl,reg.Ext.refl _,rfl⟩
      intro ρ rc rf rg re
      rw [re] at s4
      simp [execOp,go_sem,rc,rf,rg,s4] <;> first | omega | rfl | decide
     ·-- 2: slot 18:=Op.slice 9 t16 none (some t17) none
      intro ra w' hx hs
      have s16:ra.eval (.tmp 16) = sv l:=hs.1
      have s17:ra.eval (.tmp 17) = .int .i64 k:=hs.2.1
      clear hs
      change Oper.wp _ _ ra w' _ _
      refine reg.wp_value (v:=sv (l.take k)) (w':=w') ?_ ⟨_,rfl,reg.Ext.refl _,rfl⟩
      intro ρ rc rf rg re
      rw [re] at s16 s17
      simp [execOp,go_sem,rc,rf,rg,s16,s17,sv,hx1,i1,hz] <;> first | omega | rfl | decide
     ·-- 3: slot 19:=Op.move t0
      intro ra w' hx hs
      have s0:ra.eval (.tmp 0) = sv l:=hs.1
      clear hs
      change Oper.wp _ _ ra w' _ _
      refine reg.wp_value (v:=sv l) (w':=w') ?_ ⟨_,rfl,reg.Ext.refl _,rfl⟩
      intro ρ rc rf rg re
      rw [re] at s0
      simp [execOp,go_sem,rc,rf,rg,s0] <;> first | omega | rfl | decide
     ·-- 4: slot 20:=Op.move t4
      intro ra w' hx hs
      have s4:ra.eval (.tmp 4) = .int .i64 k:=hs.1
      clear hs
      change Oper.wp _ _ ra w' _ _
      refine reg.wp_value (v:=.int .i64 k) (w':=w') ?_ ⟨_,rfl,reg.Ext.refl _,rfl⟩
      intro ρ rc rf rg re
      rw [re] at s4
      simp [execOp,go_sem,rc,rf,rg,s4] <;> first | omega | rfl | decide
     ·-- 5: slot 21:=Op.binOp BinOp.add 3 t20 (const (1:i64)) 3
      intro ra w' hx hs
      have s20:ra.eval (.tmp 20) = .int .i64 k:=hs.1
      clear hs
      change Oper.wp _ _ ra w' _ _
      refine reg.wp_value (v:=.int .i64 (k + 1)) (w':=w') ?_ ⟨_,rfl,reg.Ext.refl _,rfl⟩
      intro ρ rc rf rg re
      rw [re] at s20
      simp [execOp,go_sem,rc,rf,rg,s20,q1] <;> first | omega | rfl | decide
     ·-- 6: slot 22:=Op.slice 9 t19 (some t21) none none
      intro ra w' hx hs
      have s19:ra.eval (.tmp 19) = sv l:=hs.1
      have s21:ra.eval (.tmp 21) = .int .i64 (k + 1):=hs.2.1
      clear hs
      change Oper.wp _ _ ra w' _ _
      refine reg.wp_value (v:=sv (l.drop (k + 1))) (w':=w') ?_ ⟨_,rfl,reg.Ext.refl _,rfl⟩
      intro ρ rc rf rg re
      rw [re] at s19 s21
      simp [execOp,go_sem,rc,rf,rg,s19,s21,sv,hx2,i2,i3,i4] <;> first | omega | rfl | decide
     ·-- 7: slot 2:=Op.assign t18
      intro ra w' hx hs
      have s18:ra.eval (.tmp 18) = sv (l.take k):=hs.1
      clear hs
      change Oper.wp _ _ ra w' _ _
      refine reg.wp_value (v:=sv (l.take k)) (w':=w') ?_ ⟨_,rfl,reg.Ext.refl _,rfl⟩
      intro ρ rc rf rg re
      rw [re] at s18
      simp [execOp,go_sem,rc,rf,rg,s18] <;> first | omega | rfl | decide
     ·-- 8: slot 3:=Op.assign t22
      intro ra w' hx hs
      have s22:ra.eval (.tmp 22) = sv (l.drop (k + 1)):=hs.1
      clear hs
      change Oper.wp _ _ ra w' _ _
      refine reg.wp_value (v:=sv (l.drop (k + 1))) (w':=w') ?_ ⟨_,rfl,reg.Ext.refl _,rfl⟩
      intro ρ rc rf rg re
      rw [re] at s22
      simp [execOp,go_sem,rc,rf,rg,s22] <;> first | omega | rfl | decide
    intro rV w2 hx hf
    have ve0:rV 0 = sv l:=hf 0 (by decide)
    have ve1:rV 1 = .int .i64 k:=hf 1 (by decide)
    have ve2:rV 2 = sv (l.take k):=hf 2 (by decide)
    have ve3:rV 3 = sv l:=hf 3 (by decide)
    have ve4:rV 4 = .int .i64 k:=hf 4 (by decide)
    have ve5:rV 5 = .int .i64 (k + 1):=hf 5 (by decide)
    have ve6:rV 6 = sv (l.drop (k + 1)):=hf 6 (by decide)
    have ve7:rV 7 = sv (l.take k):=hf 7 (by decide)
    have ve8:rV 8 = sv (l.drop (k + 1)):=hf 8 (by decide)
    clear hf
    simp only [List.zipIdx_cons,List.zipIdx_nil,List.foldl_cons,List.foldl_nil,Act.put,Nat.reduceAdd,List.setIfInBounds_toArray,List.set_cons_succ,List.set_cons_zero,ve0,ve1,ve2,ve3,ve4,ve5,ve6,ve7,ve8]
    clear ve0 ve1 ve2 ve3 ve4 ve5 ve6 ve7 ve8
    clear rV
    go_wp2_with fail
    go_ret2
    exact ⟨.inl ⟨_,_,HL.out,HD.out,rfl⟩,Below.drew (Below.refl _ _) |>.trans hx⟩
   ·have HD2:Hid ((47:UInt8) ∉ l.drop k):=by
     rw [Hid,HDR.out,List.mem_cons]
     rintro (e | e)
     ·exact e1 e.symm
     ·exact HD.out e
    obtain ⟨cc,hc⟩:∃ c:Nat,x.toNat = c:=⟨_,rfl⟩
    have n1:cc ≠ 47:=fun h=>e1 (UInt8.toNat_inj.1 (hc.trans h))
    have n3:((cc:Int) == 47) = false:=by rw [beq_eq_false_iff_ne];omega
    clear e1
    go_wp2_with fail
    go_roundg k
    case rel=>exact ⟨_,by omega,rfl,by go_num,HD2.out,rfl⟩
    case measure=>omega
theorem join_cut {qs:List Nm} {n a b:Nm} (hg:Good (qs ++ [n])) (h:joinL (qs ++ [n]) = a ++ 47 :: b) (hb:(47:UInt8) ∉ b):a = joinL qs ∧ b = n:=by
 have hn:=(good_no (hg n (by simp))).2.1
 have h1:=path.pieces_join (qs ++ [n]) hg (by simp)
 rw [h,path.pieces_snoc a b hb] at h1
 obtain ⟨e1,e2⟩:=List.append_inj' h1 rfl
 have e3:b = n:=List.singleton_inj.1 e2
 refine ⟨?_,e3⟩
 by_cases hq:qs = []
 ·rw [hq] at e1
  exact absurd e1 (path.piecesL_ne a)
 ·rw [joinL_snoc _ _ hq,e3] at h
  exact (List.append_inj_left' h.symm rfl)
theorem Split_join (qs:List Nm) (n:Nm) (hg:Good (qs ++ [n])) (w:World) (hl:(joinL (qs ++ [n])).length ≤ 2000000):Calls Tryz.prog 55 #[sv (joinL (qs ++ [n]))] w fun e w'=>e = .returned (.tuple #[sv (joinL qs),sv n]) ∧ Below w.heap.size w w':=
 (Split_any _ w hl).mono fun e w' ⟨h,hw⟩=>by
  refine ⟨?_,hw⟩
  rcases h with ⟨a,b,h1,h2,h3⟩ | ⟨h1,h3⟩
  ·obtain ⟨rfl,rfl⟩:=join_cut hg h1 h2
   exact h3
  ·have hq:qs = []:=by
    refine Classical.byContradiction fun hq=>h1 ?_
    rw [joinL_snoc _ _ hq]
    simp
   subst hq
   rw [List.nil_append,joinL_one] at h3
   rw [joinL_nil]
   exact h3
end Go.Proofs.YtifhnpkapgaboaaGreat.doc
namespace Go.Proofs.YtifhnpkapgaboaaGreat.doc
open Go Go.RowKit
open heap
open path (sv str_size SRow partsL joinL)
set_option maxRecDepth 100000
theorem WF.walk {M:DM} (h:WF M) (ps:List Nm) (i:Nat) (p:Nm) (hp:ps[i]? = some p) (x:BN) (hx:findM M (ps.take i) = some x):findM M (ps.take (i + 1)) = findM M (x.ps ++ [p]):=by
 rw [List.take_add_one,hp,(findM_some hx).2];rfl
theorem findM_long {M:DM} (h:WF M) (ps qs:List Nm) (hn:findM M ps = none):findM M (ps ++ qs) = none:=by
 cases hf:findM M (ps ++ qs) with
 | none=>rfl
 | some y =>
  exfalso
  obtain ⟨hy,hyp⟩:=findM_some hf
  have key:∀ (k:Nat) (u:List Nm) (z:BN),u.length = k → z ∈ M → z.ps = ps ++ u → False:=by
   intro k
   induction k with
   | zero =>
    intro u z hu hz hzp
    obtain rfl:=List.length_eq_zero_iff.1 hu
    rw [List.append_nil] at hzp
    exact findM_none hn z hz hzp
   | succ k ih =>
    intro u z hu hz hzp
    have hun:u ≠ []:=fun e=>by rw [e] at hu;simp at hu
    obtain ⟨v,hv,hvp,-⟩:=h.up z hz (ps ++ u.dropLast) (u.getLast hun) (by rw [hzp,List.append_assoc,List.dropLast_concat_getLast])
    exact ih u.dropLast v (by simp [hu]) hv hvp
  exact key _ qs y rfl hy hyp
def fV:Option BN → Value
 | some x=>pV x.b
 | none=>.pointer none
theorem WF.wide {M:DM} (h:WF M) {x:BN} (hx:x ∈ M):x.names.length ≤ M.length:=by
 have h1:=h.count hx
 have h2:cnt M x.ps ≤ M.length:=List.countP_le_length
 have h3:∀ (l:List Nm) (f:Nm → Nat),l.length ≤ (l.map fun n=>1 + f n).sum:=by
  intro l f
  induction l with
  | nil=>simp
  | cons a r ih=>simp;omega
 have:=h3 x.names fun n=>cnt M (x.ps ++ [n])
 omega
theorem kid_find {base t:Nat} {M:DM} {w:World} (h:TreeP w base t M) (hM:M.length ≤ 1000000000) {x:BN} (hx:x ∈ M) (n:Nm) :
  Calls Tryz.prog 64 #[pV x.b,sv n] w fun e w'=>(∃ k:Nat,e = .returned (.tuple #[fV (findM M (x.ps ++ [n])),.int .i64 k])) ∧ w = w':=
 (kid_any base x n w (h.node x hx) (h.wf.len x hx) (Nat.le_trans (h.wf.wide hx) hM)).mono fun e w' ⟨hr,hw⟩=>by
  refine ⟨⟨kidIx x.names n,?_⟩,hw⟩
  have hmem:=(h.wf.srt x hx).mem n
  rcases h.wf.kid hx n with ⟨hn,y,hy,hk⟩ | ⟨hn,hy⟩
  ·rcases hr with ⟨c,h1,h2,h3⟩ | ⟨h1,-⟩
   ·rw [hk] at h2
    rw [h3,hy,← Option.some.inj h2]
    rfl
   ·exact absurd (hmem.1 hn) h1
  ·rcases hr with ⟨c,h1,h2,h3⟩ | ⟨-,h3⟩
   ·exact absurd (hmem.2 h1) hn
   ·rw [h3,hy]
    rfl
set_option maxHeartbeats 1000000 in
theorem Find_any {base t:Nat} {M:DM} (ps:List Nm) (hg:Good ps) (w:World) (h:TreeP w base t M) (hM:M.length ≤ 1000000000) (hl:(joinL ps).length ≤ 2000000) :
  Calls Tryz.prog 25 #[pV t,sv (joinL ps)] w fun e w'=>e = .returned (fV (findM M ps)) ∧ Below w.heap.size w w':=by
 have HP:=Lib.hid (fun W:World=>path.rParts_any (joinL ps) W hl)
 rw [path.parts_join ps hg] at HP
 have HBD:=Lib.hid (path.parts_bd (joinL ps)).1
 rw [path.parts_join ps hg] at HBD
 obtain ⟨r,rest,c,f,l,i,m,nx,bs,hMr,htb⟩:=h.tb
 have c0:w.cell? ⟨t,0,none⟩ = some (pV r.b):=by rw [blk_cell htb];rfl
 have HR:Hid (findM M [] = some r):=by
  obtain ⟨r',rest',hM',hp,-⟩:=h.wf.root
  rw [hMr,List.cons.injEq] at hM'
  have:=h.wf.find (x:=r) (by rw [hMr];simp)
  rw [hM'.1,hp,← hM'.1] at this
  exact this
 have HT:=Lib.hid h
 clear h hMr htb
 generalize hs:joinL ps = s at *
 clear hs
 go_enter Tryz.func25,Tryz.ntmps25
 go_wp2_with fail
 (with_reducible refine (HP.out _).mono ?_);rintro e w1 ⟨v,rfl,hv,hbel⟩
 have HT1:Hid (TreeP w1 base t M):=HT.out.below hbel
 have HB:=Lib.hid hbel
 have HN:=Lib.hid (path.SRow.cells hv)
 obtain ⟨a6,n6,rfl⟩:∃ a c,v = .slice a ps.length c:=by
  rcases HN.out with ⟨e1,e2⟩ | ⟨g,c,e1,-⟩
  ·exact ⟨none,0,by rw [e1,e2];rfl⟩
  ·exact ⟨_,_,e1⟩
 clear hbel hv HT HP c0
 go_wp2_with fail
 go_loopg [5,7] ps.length (fun kk v5 v7 wr=>∃ i:Nat,i + kk = ps.length ∧ v5 = fV (findM M (ps.take i)) ∧ v7 = .int .i64 i ∧ w1 = wr)
 case atStart=>exact ⟨0,by omega,by rw [List.take_zero,HR.out];rfl,rfl,rfl⟩
 case round =>
  obtain ⟨i,hik,h5,rfl,rfl⟩:=hrel
  cases gk with
  | zero =>
   obtain rfl:i = ps.length:=by omega
   rw [List.take_of_length_le (Nat.le_refl _)] at h5
   cases hf:findM M ps with
   | none =>
    rw [hf] at h5
    simp only [fV] at h5
    subst h5
    have HF:Hid (fV (findM M ps) = .pointer none):=by rw [Hid,hf];rfl
    clear hf
    go_wp2_with fail
    go_ret
    exact ⟨by rw [HF.out];rfl,HB.out⟩
   | some x =>
    rw [hf] at h5
    simp only [fV] at h5
    subst h5
    have HF:Hid (fV (findM M ps) = pV x.b):=by rw [Hid,hf];rfl
    clear hf
    go_wp2_with fail
    go_ret
    exact ⟨by rw [HF.out];rfl,HB.out⟩
  | succ gk =>
   have hlt:i < ps.length:=by omega
   have hii:(i:Int) < (ps.length:Int):=by omega
   cases hf:findM M (ps.take i) with
   | none =>
    have hno:findM M ps = none:=by
     have:=findM_long HT1.out.wf (ps.take i) (ps.drop i) hf
     rwa [List.take_append_drop] at this
    have HF:Hid (fV (findM M ps) = .pointer none):=by rw [Hid,hno];rfl
    rw [hf] at h5
    simp only [fV] at h5
    subst h5
    clear hf hno
    go_wp2_with fail
    go_ret
    exact ⟨by rw [HF.out];rfl,HB.out⟩
   | some x =>
    rw [hf] at h5
    simp only [fV] at h5
    subst h5
    rcases HN.out with ⟨-,h0⟩ | ⟨g,c,e1,hg6,hc1,hc2,hcl⟩
    ·rw [h0] at hlt;exact absurd hlt (by simp)
    simp only [Value.slice.injEq] at e1
    obtain ⟨rfl,-,rfl⟩:=e1
    obtain ⟨p,hp⟩:∃ p,ps[i]? = some p:=⟨_,List.getElem?_eq_getElem hlt⟩
    have x0:=hcl i p hp
    unfold maxLen at hc2
    have HK:=Lib.hid (kid_find HT1.out hM (findM_some hf).1 p)
    have HW:Hid (findM M (ps.take (i + 1)) = findM M (x.ps ++ [p])):=HT1.out.wf.walk ps i p hp x hf
    clear hcl hf hp
    go_wp2_with fail
    (with_reducible refine HK.out.mono ?_);rintro e w5 ⟨⟨k,rfl⟩,rfl⟩
    go_wp2_with fail
    go_roundg gk
    case rel=>exact ⟨i + 1,by omega,by rw [HW.out],by go_num,rfl⟩
    case measure=>omega
end Go.Proofs.YtifhnpkapgaboaaGreat.doc
namespace Go.Proofs.YtifhnpkapgaboaaGreat.doc
open Go Go.RowKit
open heap
open path (sv str_size SRow)
set_option maxRecDepth 100000
def sumT (M:DM) (x:BN) (i:Nat):Nat:=((x.names.take i).map fun n=>1 + cnt M (x.ps ++ [n])).sum
theorem sumT_le (M:DM) (x:BN) (i:Nat):sumT M x i ≤ (x.names.map fun n=>1 + cnt M (x.ps ++ [n])).sum:=by
 have h:(x.names.map fun n=>1 + cnt M (x.ps ++ [n])).sum = sumT M x i + ((x.names.drop i).map fun n=>1 + cnt M (x.ps ++ [n])).sum:=by
  unfold sumT
  rw [← List.sum_append,← List.map_append,List.take_append_drop]
 omega
theorem sumT_succ (M:DM) (x:BN) (i:Nat) (n:Nm) (hn:x.names[i]? = some n):sumT M x (i + 1) = sumT M x i + (1 + cnt M (x.ps ++ [n])):=by
 unfold sumT
 rw [List.take_add_one,hn,List.map_append,List.sum_append]
 simp
set_option maxHeartbeats 1000000 in
theorem Count_ind {base t:Nat} {M:DM} {w:World} (h:TreeP w base t M) (hM:M.length ≤ 1000000000):∀ (N:Nat) (x:BN),x ∈ M → cnt M x.ps < N →
  Calls Tryz.prog 36 #[pV x.b] w fun e w'=>e = .returned (.int .i64 (cnt M x.ps)) ∧ w = w':=by
 intro N
 induction N with
 | zero=>intro x _ h0;exact absurd h0 (by omega)
 | succ N ih =>
  intro x hx hN
  obtain ⟨id,up,hb⟩:=(h.node x hx).blk
  have c5:w.cell? ⟨x.b,5,none⟩ = some x.kv:=by rw [blk_cell hb];rfl
  have HK:=Lib.hid (h.node x hx).ks.cells
  obtain ⟨a5,n5,e5⟩:∃ a c,x.kv = .slice a x.kids.length c:=by
   rcases HK.out with ⟨e1,e2⟩ | ⟨g,c,e1,-⟩
   ·exact ⟨none,0,by rw [e1,e2];rfl⟩
   ·exact ⟨_,_,e1⟩
  rw [e5] at c5 HK
  have hlen:=h.wf.len x hx
  have HC:Hid (cnt M x.ps = sumT M x x.kids.length):=by
   rw [Hid,← hlen,h.wf.count hx]
   unfold sumT
   rw [List.take_length]
  have hcl:cnt M x.ps ≤ M.length:=List.countP_le_length
  have HS:Hid (∀ i,sumT M x i ≤ 1000000000):=fun i=>by
   have:=sumT_le M x i
   rw [← h.wf.count hx] at this
   omega
  have HY:Hid (∀ (i q:Nat),x.kids[i]? = some q → ∃ n,x.names[i]? = some n ∧ Calls Tryz.prog 36 #[pV q] w fun e w'=>e = .returned (.int .i64 (cnt M (x.ps ++ [n]))) ∧ w = w'):=by
   intro i q hq
   have hl:=(List.getElem?_eq_some_iff.1 hq).1
   have hn:=List.getElem?_eq_getElem (l:=x.names) (i:=i) (by omega)
   obtain ⟨y,hy,hyp,hyb⟩:=h.wf.down x hx i _ q hn hq
   have hlt:=cnt_lt h.wf hx (List.mem_of_getElem? hn)
   have:=ih y hy (by rw [hyp];omega)
   rw [hyp,hyb] at this
   exact ⟨_,hn,this⟩
  have HZ:Hid (sumT M x 0 = 0):=by unfold sumT;rw [Hid];simp
  have HM:Hid (∀ i n,x.names[i]? = some n → sumT M x (i + 1) = sumT M x i + (1 + cnt M (x.ps ++ [n]))):=fun i n hn=>sumT_succ M x i n hn
  clear h hb ih hN hM hcl e5
  generalize cnt M x.ps = tot at *
  generalize hfs:sumT M x = fs at *
  generalize hks:x.kids = ks at *
  generalize x.b = b at *
  clear hfs hks hlen
  go_enter Tryz.func36,Tryz.ntmps36
  go_wp2_with fail
  go_loopg [3,4] ks.length (fun kk v3 v4 wr=>∃ i:Nat,i + kk = ks.length ∧ v3 = .int .i64 (fs i) ∧ v4 = .int .i64 i ∧ w = wr)
  case atStart=>exact ⟨0,by omega,by rw [HZ.out];rfl,rfl,rfl⟩
  case round =>
   obtain ⟨i,hik,rfl,rfl,rfl⟩:=hrel
   cases gk with
   | zero =>
    obtain rfl:i = ks.length:=by omega
    clear HZ
    go_wp2_with fail
    go_ret
    exact ⟨by rw [HC.out];rfl,rfl⟩
   | succ gk =>
    have hlt:i < ks.length:=by omega
    have hii:(i:Int) < (ks.length:Int):=by omega
    rcases HK.out with ⟨-,h0⟩ | ⟨g,c,e1,hg6,hc1,hc2,hcl⟩
    ·rw [h0] at hlt;exact absurd hlt (by simp)
    simp only [Value.slice.injEq] at e1
    obtain ⟨rfl,-,rfl⟩:=e1
    obtain ⟨q,hq⟩:∃ q,ks[i]? = some q:=⟨_,List.getElem?_eq_getElem hlt⟩
    have x0:=hcl i q hq
    unfold maxLen at hc2
    obtain ⟨n,hn,hcall⟩:=HY.out i q hq
    have HQ:=Lib.hid hcall
    have HNX:Hid (fs (i + 1) = fs i + (1 + cnt M (x.ps ++ [n]))):=HM.out i n hn
    have b1:=HS.out i
    have b2:=HS.out (i + 1)
    have b3:=HNX.out
    clear hcl hq hcall hn
    generalize cnt M (x.ps ++ [n]) = cn at *
    generalize hfi:fs i = fi at *
    generalize hfj:fs (i + 1) = fj at *
    have HFJ:=Lib.hid hfj
    subst b3
    clear hfi hfj
    go_wp2_with fail
    (with_reducible refine HQ.out.mono ?_);rintro e w5 ⟨rfl,rfl⟩
    go_wp2_with fail
    go_roundg gk
    case rel=>exact ⟨i + 1,by omega,by rw [HFJ.out];go_num,by go_num,rfl⟩
    case measure=>omega
theorem Count_any {base t:Nat} {M:DM} {w:World} (h:TreeP w base t M) (hM:M.length ≤ 1000000000) (x:BN) (hx:x ∈ M) :
  Calls Tryz.prog 36 #[pV x.b] w fun e w'=>e = .returned (.int .i64 (cnt M x.ps)) ∧ w = w':=Count_ind h hM _ x hx (Nat.lt_succ_self _)
end Go.Proofs.YtifhnpkapgaboaaGreat.doc
namespace Go.Proofs.YtifhnpkapgaboaaGreat.doc
open Go Go.RowKit
open heap
open path (sv SRow add0)
def ARow {α:Type} (f:α → Value) (e:TypeId) (w:World) (base:Nat) (v:Value) (xs:List α):Prop:=w.ownsRow base e 1 v xs.length (xs.map f)
section
variable {α:Type} {f:α → Value} {e:TypeId}
theorem ARow.kept {w w':World} {base:Nat} {v:Value} {xs:List α} (h:ARow f e w base v xs) (hk:∀ g o,v.ownBlock = some g → w.heap[g]? = some o → o.isCells = true → w'.heap[g]? = some o):ARow f e w' base v xs:=by
 obtain ⟨hl,h1 | ⟨g,c,cur,rfl,h2,h3,h4⟩⟩:=h
 ·exact ⟨hl,.inl h1⟩
 ·exact ⟨hl,.inr ⟨g,c,cur,rfl,h2,hk g _ rfl h3 rfl,h4⟩⟩
theorem ARow.lt {w:World} {base:Nat} {v:Value} {xs:List α} (h:ARow f e w base v xs) {g:Nat} (hg:v.ownBlock = some g):base ≤ g ∧ g < w.heap.size:=World.ownsRow.lt h g hg
theorem ARow.cell {w:World} {base g n c:Nat} {xs:List α} (h:ARow f e w base (.slice (some ⟨g,0,none⟩) n c) xs) {j:Nat} {x:α} (hx:xs[j]? = some x):w.cell? ⟨g,j,none⟩ = some (f x):=by
 have := @World.ownsRow.cells _ _ _ _ _ _ _ h g rfl j (f x) (by simp [hx])
 rwa [add0] at this
theorem ARow.take {w:World} {base n c:Nat} {a:Option Addr} {xs:List α} (h:ARow f e w base (.slice a n c) xs) (i:Nat) (hi:i ≤ xs.length):ARow f e w base (.slice a i c) (xs.take i):=by
 have hl2:(xs.take i).length = i:=by rw [List.length_take];omega
 obtain ⟨hl,⟨h1,h2⟩ | ⟨g,cp,cur,hv,h2,h3,h4,h5,h6,h7⟩⟩:=h
 ·refine ⟨by simp,.inl ⟨?_,by omega⟩⟩
  simp only [Value.slice.injEq] at h1
  obtain ⟨rfl,-,rfl⟩:=h1
  rw [show i = 0 by omega]
 ·simp only [Value.slice.injEq] at hv
  obtain ⟨rfl,rfl,rfl⟩:=hv
  refine ⟨by simp,.inr ⟨g,c,cur,by rw [hl2],h2,h3,by omega,h5,h6,?_⟩⟩
  rw [List.map_take,← h7,List.take_take,hl2]
  congr 1
  omega
def SrcR (f:α → Value) (w:World) (v:Value) (ys:List α):Prop:=(∃ c,v = .slice none 0 c ∧ ys = []) ∨ ∃ ad c,v = .slice (some ad) ys.length c ∧ ∀ j y,ys[j]? = some y → w.cell? (ad.add j) = some (f y)
theorem ARow.src {w:World} {base n c:Nat} {g:Nat} {xs:List α} (h:ARow f e w base (.slice (some ⟨g,0,none⟩) n c) xs) (i m c':Nat) (hm:m = xs.length - i):SrcR f w (.slice (some ⟨g,i,none⟩) m c') (xs.drop i):=by
 refine .inr ⟨⟨g,i,none⟩,c',by rw [List.length_drop,hm],fun j y hy => ?_⟩
 rw [List.getElem?_drop] at hy
 have e1:(⟨g,i,none⟩:Addr).add j = ⟨g,i + j,none⟩:=by unfold Addr.add;split <;> simp_all
 rw [e1]
 exact h.cell hy
theorem SrcR.whole {w:World} {base:Nat} {v:Value} {xs:List α} (h:ARow f e w base v xs):SrcR f w v xs:=by
 have hcl := @World.ownsRow.cells _ _ _ _ _ _ _ h
 obtain ⟨hl,⟨h1,h2⟩ | ⟨g,c,cur,hv,h2,h3,h4,h5,h6,h7⟩⟩:=h
 ·exact .inl ⟨0,h1,List.length_eq_zero_iff.1 h2⟩
 ·refine .inr ⟨⟨g,0,none⟩,c,hv,fun j q hq=>hcl (g:=g) (by rw [hv];rfl) j (f q) (by simp [hq])⟩
variable {P:Program} {t:TypeId} {i0:TypeInfo} {z:Value} {bytes:Nat}
theorem app_rows (ht:P.underlying t = some (.slice e)) (hi:P.info? e = some i0) (hz:i0.zero = some z) (hs:i0.size = 1) (hb:i0.bytes = bytes) (hzs:z.cells.size = 1) (hb16:bytes ≤ 16) (h1:∀ x,(f x).oneCell' = true)
  (w:World) (base:Nat) (v:Value) (xs:List α) (h:ARow f e w base v xs) (u:Value) (ys:List α) (hu:SrcR f w u ys) (hbase:base ≤ w.heap.size) (hn:xs.length + ys.length ≤ 2000000000) :
  ∃ v' w',(Builtin.append_ #[t,t] t #[v,u]).run P w = .ok v' w' ∧ ARow f e w' base v' (xs ++ ys) ∧ w.grownBy w' v.ownBlock ∧ (∀ g,v'.ownBlock = some g → v.ownBlock = some g ∨ w.heap.size ≤ g) ∧ (∃ a c,v' = .slice a (xs.length + ys.length) c):=by
 have hsh:∃ a c,v = .slice a xs.length c ∧ xs.length ≤ c:=by
  obtain ⟨hl,⟨e1,h0⟩ | ⟨g,c,cur,e1,h2,h3,h4,h5⟩⟩:=h
  ·exact ⟨none,0,by rw [e1,h0],by omega⟩
  ·exact ⟨_,c,e1,h4⟩
 obtain ⟨a,c,hv,hac⟩:=hsh
 by_cases hy:ys = []
 ·subst hy
  refine ⟨v,w,?_,by rw [List.append_nil];exact h,⟨rfl,rfl,rfl,Nat.le_refl _,fun _ _ _=>rfl⟩,fun g hg=>.inl hg,a,c,by rw [hv];rfl⟩
  rw [hv]
  rcases hu with ⟨c',rfl,-⟩ | ⟨ad,c',rfl,-⟩
  ·exact run_append_nothing w t t t e i0 ht hi _ _ _ hac _ (Src.ofNil w ht c')
  ·exact run_append_nothing w t t t e i0 ht hi _ _ _ hac _ (Src.ofSlice w ht ad 0 c' [] (by simp) (fun j u hu=>by simp at hu) (fun u hu=>by cases hu))
 ·rcases hu with ⟨c',-,e2⟩ | ⟨ad,c',rfl,hcl⟩
  ·exact absurd e2 hy
  ·have hpos:0 < ys.length:=List.length_pos_iff.2 hy
   have hby:(xs.length + ys.length) * bytes ≤ 140737488355328:=by
    have:(xs.length + ys.length) * bytes ≤ 2000000000 * 16:=Nat.mul_le_mul hn hb16
    omega
   obtain ⟨g,cap,w',hr,h2,h3,h4,h5⟩:=run_append_lies (P:=P) (w:=w) t t base e i0 z 1 bytes ht hi hz hs hb hzs (by decide) v xs.length (xs.map f) h ad ys.length c' (ys.map f) (by simp) (fun j u hu=>by
     rw [List.getElem?_map] at hu
     cases hq:ys[j]? with
     | none=>simp [hq] at hu
     | some q =>
      simp [hq] at hu
      rw [← hu]
      exact hcl j q hq) (fun u hu=>by obtain ⟨q,-,rfl⟩:=List.mem_map.1 hu;exact h1 q) hpos (by unfold maxLen;omega) hby hbase _ rfl
   refine ⟨_,w',hr,?_,h3,fun g' hg' => ?_,_,_,rfl⟩
   ·unfold ARow
    rw [List.length_append,List.map_append]
    exact h2
   ·have hg2:g = g':=by simpa [Value.ownBlock] using hg'
    subst hg2
    rcases h4 with h4 | h4
    ·exact .inl h4
    ·exact .inr (by omega)
theorem app_full (ht:P.underlying t = some (.slice e)) (hi:P.info? e = some i0) (hz:i0.zero = some z) (hs:i0.size = 1) (hb:i0.bytes = bytes) (hzs:z.cells.size = 1) (hb16:bytes ≤ 16) (h1:∀ x,(f x).oneCell' = true)
  (w:World) (base g k:Nat) (xs:List α) (h:ARow f e w base (.slice (some ⟨g,0,none⟩) k k) xs) (u:Value) (ys:List α) (hu:SrcR f w u ys) (hbase:base ≤ w.heap.size) (hn:xs.length + ys.length ≤ 2000000000) :
  ∃ v' w',(Builtin.append_ #[t,t] t #[.slice (some ⟨g,0,none⟩) k k,u]).run P w = .ok v' w' ∧ ARow f e w' base v' (xs ++ ys) ∧ Below w.heap.size w w' ∧ (∃ g2 c,v' = .slice (some ⟨g2,0,none⟩) (xs.length + ys.length) c):=by
 have hk:k = xs.length:=by
  obtain ⟨hl,⟨e1,h0⟩ | ⟨g',c,cur,e1,h2,h3,h4,h5⟩⟩:=h
  ·cases e1
  ·simp only [Value.slice.injEq] at e1
   omega
 by_cases hy:ys = []
 ·subst hy
  refine ⟨.slice (some ⟨g,0,none⟩) k k,w,?_,by rw [List.append_nil];exact h,Below.refl _ _,g,k,by rw [hk];rfl⟩
  rcases hu with ⟨c',rfl,-⟩ | ⟨ad,c',rfl,-⟩
  ·exact run_append_nothing w t t t e i0 ht hi _ _ _ (Nat.le_refl _) _ (Src.ofNil w ht c')
  ·exact run_append_nothing w t t t e i0 ht hi _ _ _ (Nat.le_refl _) _ (Src.ofSlice w ht ad 0 c' [] (by simp) (fun j u hu=>by simp at hu) (fun u hu=>by cases hu))
 ·rcases hu with ⟨c',-,e2⟩ | ⟨ad,c',rfl,hcl⟩
  ·exact absurd e2 hy
  ·have hpos:0 < ys.length:=List.length_pos_iff.2 hy
   have hby:(k + ys.length) * bytes ≤ 140737488355328:=by
    have:(k + ys.length) * bytes ≤ 2000000000 * 16:=Nat.mul_le_mul (by omega) hb16
    omega
   obtain ⟨v',w',hr,h2,h3⟩:=run_append_arg_grows (P:=P) (w:=w) t t e i0 z 1 bytes ht hi hz hs hb hzs (by decide) ⟨g,0,none⟩ k k (xs.map f) (by simp [hk]) (fun j u hu=>by
     rw [List.getElem?_map] at hu
     cases hq:xs[j]? with
     | none=>simp [hq] at hu
     | some q =>
      simp [hq] at hu
      rw [← hu,add0]
      exact h.cell hq) ad ys.length c' (ys.map f) (by simp) (fun j u hu=>by
     rw [List.getElem?_map] at hu
     cases hq:ys[j]? with
     | none=>simp [hq] at hu
     | some q =>
      simp [hq] at hu
      rw [← hu]
      exact hcl j q hq) (by omega) (by unfold maxLen;omega) hby
   have hrow:ARow f e w' base v' (xs ++ ys):=by
    unfold ARow
    rw [List.length_append,List.map_append,← hk]
    obtain ⟨hl,⟨e1,h0⟩ | ⟨g',c,cur,e1,h4,h5⟩⟩:=h2
    ·exact ⟨hl,.inl ⟨e1,h0⟩⟩
    ·exact ⟨hl,.inr ⟨g',c,cur,e1,Nat.le_trans hbase h4,h5⟩⟩
   refine ⟨v',w',hr,hrow,⟨h3.os,h3.tape,h3.output,h3.size,fun b hb=>h3.block b hb (by simp)⟩,?_⟩
   obtain ⟨hl,⟨e1,h0⟩ | ⟨g',c,cur,e1,h4,h5⟩⟩:=h2
   ·omega
   ·exact ⟨_,_,by rw [e1,hk]⟩
end
theorem infoS':(Tryz.prog.info? 9).map (fun i=>(i.zero,i.size,i.bytes)) = some (some (.string ⟨#[]⟩),1,16):=by kernel_rfl
theorem infoK':(Tryz.prog.info? 55).map (fun i=>(i.zero,i.size,i.bytes)) = some (some (.pointer none),1,8):=by kernel_rfl
theorem srow_is (w:World) (base:Nat) (v:Value) (xs:List Nm):SRow w base v xs ↔ ARow (sv:Nm → Value) 9 w base v xs:=Iff.rfl
theorem krow_is (w:World) (base:Nat) (v:Value) (xs:List Nat):KRow w base v xs ↔ ARow pV 55 w base v xs:=Iff.rfl
theorem app_ss (w:World) (base:Nat) (v:Value) (xs:List Nm) (h:SRow w base v xs) (u:Value) (ys:List Nm) (hu:SrcR (sv:Nm → Value) w u ys) (hbase:base ≤ w.heap.size) (hn:xs.length + ys.length ≤ 2000000000) :
  ∃ v' w',(Builtin.append_ #[59,59] 59 #[v,u]).run Tryz.prog w = .ok v' w' ∧ SRow w' base v' (xs ++ ys) ∧ w.grownBy w' v.ownBlock ∧ (∀ g,v'.ownBlock = some g → v.ownBlock = some g ∨ w.heap.size ≤ g) ∧ (∃ a c,v' = .slice a (xs.length + ys.length) c):=by
 obtain ⟨i0,hi,hz0,hz1,hz2⟩:=info_parts infoS'
 exact app_rows Tryz.underlying59 hi hz0 hz1 hz2 rfl (by decide) (fun _=>rfl) w base v xs h u ys hu hbase hn
theorem app_kk (w:World) (base:Nat) (v:Value) (xs:List Nat) (h:KRow w base v xs) (u:Value) (ys:List Nat) (hu:SrcR pV w u ys) (hbase:base ≤ w.heap.size) (hn:xs.length + ys.length ≤ 2000000000) :
  ∃ v' w',(Builtin.append_ #[60,60] 60 #[v,u]).run Tryz.prog w = .ok v' w' ∧ KRow w' base v' (xs ++ ys) ∧ w.grownBy w' v.ownBlock ∧ (∀ g,v'.ownBlock = some g → v.ownBlock = some g ∨ w.heap.size ≤ g) ∧ (∃ a c,v' = .slice a (xs.length + ys.length) c):=by
 obtain ⟨i0,hi,hz0,hz1,hz2⟩:=info_parts infoK'
 exact app_rows Tryz.underlying60 hi hz0 hz1 hz2 rfl (by decide) (fun _=>rfl) w base v xs h u ys hu hbase hn
theorem full_ss (w:World) (base g k:Nat) (xs:List Nm) (h:SRow w base (.slice (some ⟨g,0,none⟩) k k) xs) (u:Value) (ys:List Nm) (hu:SrcR (sv:Nm → Value) w u ys) (hbase:base ≤ w.heap.size) (hn:xs.length + ys.length ≤ 2000000000) :
  ∃ v' w',(Builtin.append_ #[59,59] 59 #[.slice (some ⟨g,0,none⟩) k k,u]).run Tryz.prog w = .ok v' w' ∧ SRow w' base v' (xs ++ ys) ∧ Below w.heap.size w w' ∧ (∃ g2 c,v' = .slice (some ⟨g2,0,none⟩) (xs.length + ys.length) c):=by
 obtain ⟨i0,hi,hz0,hz1,hz2⟩:=info_parts infoS'
 exact app_full Tryz.underlying59 hi hz0 hz1 hz2 rfl (by decide) (fun _=>rfl) w base g k xs h u ys hu hbase hn
theorem full_kk (w:World) (base g k:Nat) (xs:List Nat) (h:KRow w base (.slice (some ⟨g,0,none⟩) k k) xs) (u:Value) (ys:List Nat) (hu:SrcR pV w u ys) (hbase:base ≤ w.heap.size) (hn:xs.length + ys.length ≤ 2000000000) :
  ∃ v' w',(Builtin.append_ #[60,60] 60 #[.slice (some ⟨g,0,none⟩) k k,u]).run Tryz.prog w = .ok v' w' ∧ KRow w' base v' (xs ++ ys) ∧ Below w.heap.size w w' ∧ (∃ g2 c,v' = .slice (some ⟨g2,0,none⟩) (xs.length + ys.length) c):=by
 obtain ⟨i0,hi,hz0,hz1,hz2⟩:=info_parts infoK'
 exact app_full Tryz.underlying60 hi hz0 hz1 hz2 rfl (by decide) (fun _=>rfl) w base g k xs h u ys hu hbase hn
end Go.Proofs.YtifhnpkapgaboaaGreat.doc
namespace Go.Proofs.YtifhnpkapgaboaaGreat.reg
open Go.RowKit
end Go.Proofs.YtifhnpkapgaboaaGreat.reg
