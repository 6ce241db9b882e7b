/-
  Proved: what the document's reader's entry does over a tree. Conditions: as each theorem says.
-/
import Derived.Test.YtifhnpkapgaboaaGreatPj16
import Derived.Test.YtifhnpkapgaboaaGreatPj26
import Derived.Test.YtifhnpkapgaboaaGreatPj27
import Derived.Test.YtifhnpkapgaboaaGreatPj35
set_option linter.unusedVariables false
set_option linter.unusedSimpArgs false
namespace Go.Proofs.YtifhnpkapgaboaaGreat.arch
open Go.RowKit
open heap
open path (sv str_size cleanB cleanR belowB)
open fld (Fld applyF Sk apply_sk)
open doc (pV DM TreeP allB Rel)
set_option maxRecDepth 100000
structure RE (w:World) (q:Nat) (s:Nm) (a:Nat) (p:Nm) (k m:Int) (d:Nm) (c b:Int) (W:World):Prop where
 rd:W.heap[q]? = some (RbO s a c b)
 eb:W.heap[w.heap.size + 1]? = some (.cells #[.string ⟨p.toArray⟩,.int .i64 k,.int .i64 m,.string ⟨d.toArray⟩] 58 (0,0))
 rb:W.heap[w.heap.size]? = some (.cells #[.string ⟨#[]⟩,.int .i64 0,.int .i64 0,.string ⟨#[]⟩] 58 (0,0))
 tur:Turned [q] w W
 ql:q < w.heap.size
theorem RE.turn {w W W':World} {q a a':Nat} {s p d:Nm} {k m c b c' b':Int} (h:RE w q s a p k m d c b W) (hq:W'.heap[q]? = some (RbO s a' c' b')) (ht:Turned [q] W W'):RE w q s a' p k m d c' b' W':=
 ⟨hq,ht.kept h.eb (by have:=h.ql;simp;omega),ht.kept h.rb (by have:=h.ql;simp;omega),h.tur.trans ht,h.ql⟩
theorem RE.below {w W W':World} {q a:Nat} {s p d:Nm} {k m c b:Int} (h:RE w q s a p k m d c b W) (hb:Below W.heap.size W W'):RE w q s a p k m d c b W':=h.turn (blk_below h.rd hb) (Turned.of_below hb)
theorem RE.setT {w W:World} {q a:Nat} {s p d:Nm} {k m c b:Int} (h:RE w q s a p k m d c b W) (i:Nat) (v:Value) (cs:Array Value) (hc:(#[.string ⟨p.toArray⟩,.int .i64 k,.int .i64 m,.string ⟨d.toArray⟩]:Array Value).setIfInBounds i v = cs) :
  (W.setCell ⟨w.heap.size + 1,i,none⟩ v).heap[q]? = some (RbO s a c b) ∧ (W.setCell ⟨w.heap.size + 1,i,none⟩ v).heap[w.heap.size + 1]? = some (.cells cs 58 (0,0)) ∧
   (W.setCell ⟨w.heap.size + 1,i,none⟩ v).heap[w.heap.size]? = some (.cells #[.string ⟨#[]⟩,.int .i64 0,.int .i64 0,.string ⟨#[]⟩] 58 (0,0)) ∧ Turned [q] w (W.setCell ⟨w.heap.size + 1,i,none⟩ v):=by
 have hql:=h.ql
 refine ⟨(blk_other (by omega) i v).trans h.rd,?_,(blk_other (by omega) i v).trans h.rb,tur_set h.tur (by simp) v⟩
 rw [← hc];exact blk_set h.eb i v
theorem RE.path {w W:World} {q a:Nat} {s p d p':Nm} {k m c b:Int} (h:RE w q s a p k m d c b W):RE w q s a p' k m d c b (W.setCell ⟨w.heap.size + 1,0,none⟩ (sv p')):=by
 obtain ⟨h1,h2,h3,h4⟩:=h.setT 0 (sv p') #[sv p',.int .i64 k,.int .i64 m,.string ⟨d.toArray⟩] rfl
 exact ⟨h1,h2,h3,h4,h.ql⟩
theorem RE.mode {w W:World} {q a:Nat} {s p d:Nm} {k m m' c b:Int} (h:RE w q s a p k m d c b W):RE w q s a p k m' d c b (W.setCell ⟨w.heap.size + 1,2,none⟩ (.int .i64 m')):=by
 obtain ⟨h1,h2,h3,h4⟩:=h.setT 2 (.int .i64 m') #[.string ⟨p.toArray⟩,.int .i64 k,.int .i64 m',.string ⟨d.toArray⟩] rfl
 exact ⟨h1,h2,h3,h4,h.ql⟩
theorem RE.data {w W:World} {q a:Nat} {s p d d':Nm} {k m c b:Int} (h:RE w q s a p k m d c b W):RE w q s a p k m d' c b (W.setCell ⟨w.heap.size + 1,3,none⟩ (sv d')):=by
 obtain ⟨h1,h2,h3,h4⟩:=h.setT 3 (sv d') #[.string ⟨p.toArray⟩,.int .i64 k,.int .i64 m,sv d'] rfl
 exact ⟨h1,h2,h3,h4,h.ql⟩
def EnR (q:Nat) (s:Nm) (r:Except Flt ((Ent × Fld) × Nat)) (w:World) (e:Ending) (w':World):Prop:=match r with
 | .error p=>∃ (x:Ent) (a':Nat),e = .returned (entV x) ∧ w'.heap[q]? = some (RbO s a' p.2 p.1) ∧ p.2 ≠ 0 ∧ Turned [q] w w'
 | .ok ((x,_),b)=>∃ bd:Int,e = .returned (entV x) ∧ w'.heap[q]? = some (RbO s b 0 bd) ∧ Turned [q] w w'
theorem rahead_none (e:Ent) (A:Option Addr) (c:Nat) (w:World):Calls Tryz.prog 102 #[.slice A 0 c,entV e] w fun r w'=>r = .returned (.int .i64 (aheadF [] e)) ∧ Below w.heap.size w w':=by
 have HB:Hid (Below w.heap.size w (w.alloc (entO e))):=(Below.refl _ _).alloc (Nat.le_refl _) _
 have hbox:=blk_new w (entO e)
 go_enter Tryz.func102,Tryz.ntmps102
 go_wp2_with fail
 change Code.wp _ _ _ _ (w.alloc (entO e))
 generalize w.alloc (entO e) = w1 at *
 have q0:=blk_cell hbox 0
 simp only [List.getElem?_toArray,List.getElem?_cons_zero,List.getElem?_cons_succ] at q0
 go_quiet (fail)
 go_wp2_with fail
 go_loopg [5] 0 (fun kk v5 wr=>v5 = .int .i64 0 ∧ ∃ n,wr = w1.drewN n)
 case atStart=>exact ⟨rfl,_,rfl⟩
 case round =>
  obtain ⟨rfl,n,rfl⟩:=hrel
  go_wp2_with fail
  go_ret
  exact ⟨rfl,below_drewN HB.out _⟩
theorem rahead_in (es:List Ent) (e:Ent) (A:Option Addr) (c:Nat) (w:World) (h:EIn w A c es) (hcm:c ≤ 9223372036854775807) (hp:∀ x ∈ es,x.path.length ≤ 2000000) (he:e.path.length ≤ 2000000) :
  Calls Tryz.prog 102 #[.slice A es.length c,entV e] w fun r w'=>r = .returned (.int .i64 (aheadF es e)) ∧ Below w.heap.size w w':=by
 obtain ⟨hc,rfl | ⟨b,o,rfl,hE⟩⟩:=h
 ·exact rahead_none e A c w
 ·exact ahead_any es e b o c w hE hc hcm hp he
theorem EIn.turned {w w':World} {A:Option Addr} {c:Nat} {es:List Ent} {S:List Nat} (h:EIn w A c es) (ht:Turned S w w') (hS:∀ b o,A = some ⟨b,o,none⟩ → b ∉ S):EIn w' A c es:=
 ⟨h.1,h.2.imp id fun ⟨b,o,h1,h2⟩=>⟨b,o,h1,h2.turned ht (hS b o h1)⟩⟩
set_option maxHeartbeats 16000000 in
theorem rentry_any (q B t:Nat) (F G:Fld) (M:DM) (s:Nm) (a:Nat) (k bd:Int) (es:List Ent) (A:Option Addr) (c:Nat) (w:World) (hrd:w.heap[q]? = some (RbO s a 0 bd)) (hT:TreeP w B t M) (hqt:q ∉ allB t M) (hR:Rel G M) (hS:Sk F G) (hM:M.length ≤ 1000000000) (ha:a ≤ s.length) (hs:s.length ≤ 65536)
  (hE:EIn w A c es) (hcm:c ≤ 9223372036854775807) (hbq:∀ b o,A = some ⟨b,o,none⟩ → b ≠ q) (hp:∀ x ∈ es,x.path.length ≤ 2000000) :
  Calls Tryz.prog 87 #[PP q,.int .i64 k,.slice A es.length c,pV t] w (EnR q s (entG s k a es F) w):=by
 have hql:=blk_lt hrd
 have HI0:Hid (RE w q s a [] k 0 [] 0 bd ((w.alloc (.cells #[.string ⟨#[]⟩,.int .i64 0,.int .i64 0,.string ⟨#[]⟩] 58 (0,0))).alloc (.cells #[.string ⟨#[]⟩,.int .i64 k,.int .i64 0,.string ⟨#[]⟩] 58 (0,0)))):=by
  have e1:(w.alloc (.cells #[.string ⟨#[]⟩,.int .i64 0,.int .i64 0,.string ⟨#[]⟩] 58 (0,0))).heap.size = w.heap.size + 1:=by simp
  have h2:=blk_new (w.alloc (.cells #[.string ⟨#[]⟩,.int .i64 0,.int .i64 0,.string ⟨#[]⟩] 58 (0,0))) (.cells #[.string ⟨#[]⟩,.int .i64 k,.int .i64 0,.string ⟨#[]⟩] 58 (0,0))
  rw [e1] at h2
  exact ⟨blk_old (blk_old hrd _) _,h2,blk_old (blk_new _ _) _,((Turned.refl _ _).alloc _).alloc _,hql⟩
 have HAH:=Lib.hid (fun (p:Nm) W (hW:Turned [q] w W) (hpl:p.length ≤ 2000000)=>rahead_in es ⟨p,k,0,[]⟩ A c W (hE.turned hW (fun b o h1=>by have:=hbq b o h1;simpa using this)) hcm hp hpl)
 have HMAY:=Lib.hid (fun (p:Nm) W (hW:Turned [q] w W) (hc:cleanB p = true) (h0:p ≠ []) (hl:p.length ≤ 140)=>by
  obtain ⟨qs,n,hg,hpe⟩:=doc.clean_split p hc h0
  exact doc.may_any hR (hT.turned hW (fun g hg hm => hqt (by have : g = q := by simpa using hm
                                                             exact this ▸ hg))) hM ⟨p,k,0,[]⟩ qs n hg hpe (by show p.length ≤ _;omega))
 have HSK:=Lib.hid (fun e=>apply_sk hS (e:=e) (e':=e) rfl rfl)
 clear hrd hT hqt hR hS hE hbq hp
 obtain ⟨R,hR⟩:∃ R,entG s k a es F = R:=⟨_,rfl⟩
 rw [hR]
 have HD:=Lib.hid hR
 clear hR
 unfold entG at HD
 have hn255:=(s.getD a 0).toNat_lt
 have hnv:numV s a 1 = (s.getD a 0).toNat:=rfl
 have hs2:s.length ≤ 10000000:=by omega
 generalize (s.getD a 0).toNat = n at *
 go_enter Tryz.func87,Tryz.ntmps87
 go_upto_region 2 with fail
 change Code.wp _ _ _ _ ((w.alloc (.cells #[.string ⟨#[]⟩,.int .i64 0,.int .i64 0,.string ⟨#[]⟩] 58 (0,0))).alloc (.cells #[.string ⟨#[]⟩,.int .i64 k,.int .i64 0,.string ⟨#[]⟩] 58 (0,0)))
 generalize ((w.alloc (.cells #[.string ⟨#[]⟩,.int .i64 0,.int .i64 0,.string ⟨#[]⟩] 58 (0,0))).alloc (.cells #[.string ⟨#[]⟩,.int .i64 k,.int .i64 0,.string ⟨#[]⟩] 58 (0,0))) = W0 at *
 have rc1:=blk_cell HI0.out.rd 1
 have rc2:=blk_cell HI0.out.rd 2
 have rl:=blk_lt HI0.out.rd
 have e0:=blk_cell HI0.out.eb 0
 have e1:=blk_cell HI0.out.eb 1
 have e2:=blk_cell HI0.out.eb 2
 have e3:=blk_cell HI0.out.eb 3
 have g0:=blk_free HI0.out.eb 0
 have g2:=blk_free HI0.out.eb 2
 have g3:=blk_free HI0.out.eb 3
 have el:=blk_lt HI0.out.eb
 simp only [List.getElem?_toArray,List.getElem?_cons_zero,List.getElem?_cons_succ] at rc1 rc2 e0 e1 e2 e3
 by_cases h1:s.length < a + 1
 ·rw [if_pos h1] at HD
  go_wp2_with fail
  refine (rnum_short q s a bd 1 _ HI0.out.rd ha hs2 h1).mono ?_;rintro e w1 ⟨rfl,hq,ht⟩
  have HI1:=Lib.hid (HI0.out.turn hq ht)
  clear rc1 rc2 rl e0 e1 e2 e3 g0 g2 g3 el
  clear hq ht HI0
  have rc1:=blk_cell HI1.out.rd 1
  have rc2:=blk_cell HI1.out.rd 2
  have rl:=blk_lt HI1.out.rd
  have e0:=blk_cell HI1.out.eb 0
  have e1:=blk_cell HI1.out.eb 1
  have e2:=blk_cell HI1.out.eb 2
  have e3:=blk_cell HI1.out.eb 3
  have g0:=blk_free HI1.out.eb 0
  have g2:=blk_free HI1.out.eb 2
  have g3:=blk_free HI1.out.eb 3
  have el:=blk_lt HI1.out.eb
  simp only [List.getElem?_toArray,List.getElem?_cons_zero,List.getElem?_cons_succ] at rc1 rc2 e0 e1 e2 e3
  clear h1
  obtain ⟨ax,px,mx,dx,cx,bx,hRE,hcx,hRR⟩:∃ (ax:Nat) (px:Nm) (mx:Int) (dx:Nm) (cx:Int) (bx:Nat),RE w q s ax px k mx dx cx bx w1 ∧ cx ≠ 0 ∧ R = .error (bx,cx):=⟨_,_,_,_,_,_,HI1.out,by decide,HD.out.symm⟩
  have HX:=Lib.hid hRE
  have HCX:=Lib.hid hcx
  have hc0:(cx == 0) = false:=beq_eq_false_iff_ne.2 hcx
  clear rc1 rc2 rl e0 e1 e2 e3 g0 g2 g3 el
  clear HI1 HD hRE hcx
  subst hRR
  have rc1:=blk_cell HX.out.rd 1
  have rc2:=blk_cell HX.out.rd 2
  have rl:=blk_lt HX.out.rd
  have e0:=blk_cell HX.out.eb 0
  have e1:=blk_cell HX.out.eb 1
  have e2:=blk_cell HX.out.eb 2
  have e3:=blk_cell HX.out.eb 3
  have g0:=blk_free HX.out.eb 0
  have g2:=blk_free HX.out.eb 2
  have g3:=blk_free HX.out.eb 3
  have el:=blk_lt HX.out.eb
  simp only [List.getElem?_toArray,List.getElem?_cons_zero,List.getElem?_cons_succ] at rc1 rc2 e0 e1 e2 e3
  go_wp2_with fail
  refine (rtake_dead q s ax cx bx _ _ HX.out.rd HCX.out hs2).mono ?_;rintro e wxa ⟨rfl,hq,ht⟩
  have HXa:=Lib.hid (HX.out.turn hq ht)
  clear rc1 rc2 rl e0 e1 e2 e3 g0 g2 g3 el
  clear hq ht HX
  have rc1:=blk_cell HXa.out.rd 1
  have rc2:=blk_cell HXa.out.rd 2
  have rl:=blk_lt HXa.out.rd
  have e0:=blk_cell HXa.out.eb 0
  have e1:=blk_cell HXa.out.eb 1
  have e2:=blk_cell HXa.out.eb 2
  have e3:=blk_cell HXa.out.eb 3
  have g0:=blk_free HXa.out.eb 0
  have g2:=blk_free HXa.out.eb 2
  have g3:=blk_free HXa.out.eb 3
  have el:=blk_lt HXa.out.eb
  simp only [List.getElem?_toArray,List.getElem?_cons_zero,List.getElem?_cons_succ] at rc1 rc2 e0 e1 e2 e3
  have HXb:=Lib.hid (HXa.out.path (p' := []))
  go_upto_region 7 with fail
  change Code.wp _ _ _ _ (wxa.setCell ⟨w.heap.size + 1,0,none⟩ (sv []))
  generalize (wxa.setCell ⟨w.heap.size + 1,0,none⟩ (sv [])) = wxb at *
  clear rc1 rc2 rl e0 e1 e2 e3 g0 g2 g3 el
  clear HXa
  have rc1:=blk_cell HXb.out.rd 1
  have rc2:=blk_cell HXb.out.rd 2
  have rl:=blk_lt HXb.out.rd
  have e0:=blk_cell HXb.out.eb 0
  have e1:=blk_cell HXb.out.eb 1
  have e2:=blk_cell HXb.out.eb 2
  have e3:=blk_cell HXb.out.eb 3
  have g0:=blk_free HXb.out.eb 0
  have g2:=blk_free HXb.out.eb 2
  have g3:=blk_free HXb.out.eb 3
  have el:=blk_lt HXb.out.eb
  simp only [List.getElem?_toArray,List.getElem?_cons_zero,List.getElem?_cons_succ] at rc1 rc2 e0 e1 e2 e3
  go_wp2_with fail
  refine (rnum_dead q s ax cx bx _ _ HXb.out.rd HCX.out hs2).mono ?_;rintro e wxc ⟨rfl,hq,ht⟩
  have HXc:=Lib.hid (HXb.out.turn hq ht)
  clear rc1 rc2 rl e0 e1 e2 e3 g0 g2 g3 el
  clear hq ht HXb
  have rc1:=blk_cell HXc.out.rd 1
  have rc2:=blk_cell HXc.out.rd 2
  have rl:=blk_lt HXc.out.rd
  have e0:=blk_cell HXc.out.eb 0
  have e1:=blk_cell HXc.out.eb 1
  have e2:=blk_cell HXc.out.eb 2
  have e3:=blk_cell HXc.out.eb 3
  have g0:=blk_free HXc.out.eb 0
  have g2:=blk_free HXc.out.eb 2
  have g3:=blk_free HXc.out.eb 3
  have el:=blk_lt HXc.out.eb
  simp only [List.getElem?_toArray,List.getElem?_cons_zero,List.getElem?_cons_succ] at rc1 rc2 e0 e1 e2 e3
  have HXd:=Lib.hid (HXc.out.mode (m':=0))
  go_upto_region 17 with fail
  change Code.wp _ _ _ _ (wxc.setCell ⟨w.heap.size + 1,2,none⟩ (.int .i64 0))
  generalize (wxc.setCell ⟨w.heap.size + 1,2,none⟩ (.int .i64 0)) = wxd at *
  clear rc1 rc2 rl e0 e1 e2 e3 g0 g2 g3 el
  clear HXc
  have rc1:=blk_cell HXd.out.rd 1
  have rc2:=blk_cell HXd.out.rd 2
  have rl:=blk_lt HXd.out.rd
  have e0:=blk_cell HXd.out.eb 0
  have e1:=blk_cell HXd.out.eb 1
  have e2:=blk_cell HXd.out.eb 2
  have e3:=blk_cell HXd.out.eb 3
  have g0:=blk_free HXd.out.eb 0
  have g2:=blk_free HXd.out.eb 2
  have g3:=blk_free HXd.out.eb 3
  have el:=blk_lt HXd.out.eb
  simp only [List.getElem?_toArray,List.getElem?_cons_zero,List.getElem?_cons_succ] at rc1 rc2 e0 e1 e2 e3
  go_wp2_with fail
  refine (rnum_dead q s ax cx bx _ _ HXd.out.rd HCX.out hs2).mono ?_;rintro e wxe ⟨rfl,hq,ht⟩
  have HXe:=Lib.hid (HXd.out.turn hq ht)
  clear rc1 rc2 rl e0 e1 e2 e3 g0 g2 g3 el
  clear hq ht HXd
  have rc1:=blk_cell HXe.out.rd 1
  have rc2:=blk_cell HXe.out.rd 2
  have rl:=blk_lt HXe.out.rd
  have e0:=blk_cell HXe.out.eb 0
  have e1:=blk_cell HXe.out.eb 1
  have e2:=blk_cell HXe.out.eb 2
  have e3:=blk_cell HXe.out.eb 3
  have g0:=blk_free HXe.out.eb 0
  have g2:=blk_free HXe.out.eb 2
  have g3:=blk_free HXe.out.eb 3
  have el:=blk_lt HXe.out.eb
  simp only [List.getElem?_toArray,List.getElem?_cons_zero,List.getElem?_cons_succ] at rc1 rc2 e0 e1 e2 e3
  go_wp2_with fail
  refine (rtake_dead q s ax cx bx _ _ HXe.out.rd HCX.out hs2).mono ?_;rintro e wxf ⟨rfl,hq,ht⟩
  have HXf:=Lib.hid (HXe.out.turn hq ht)
  clear rc1 rc2 rl e0 e1 e2 e3 g0 g2 g3 el
  clear hq ht HXe
  have rc1:=blk_cell HXf.out.rd 1
  have rc2:=blk_cell HXf.out.rd 2
  have rl:=blk_lt HXf.out.rd
  have e0:=blk_cell HXf.out.eb 0
  have e1:=blk_cell HXf.out.eb 1
  have e2:=blk_cell HXf.out.eb 2
  have e3:=blk_cell HXf.out.eb 3
  have g0:=blk_free HXf.out.eb 0
  have g2:=blk_free HXf.out.eb 2
  have g3:=blk_free HXf.out.eb 3
  have el:=blk_lt HXf.out.eb
  simp only [List.getElem?_toArray,List.getElem?_cons_zero,List.getElem?_cons_succ] at rc1 rc2 e0 e1 e2 e3
  have HXg:=Lib.hid (HXf.out.data (d' := []))
  go_upto_region 25 with fail
  change Code.wp _ _ _ _ (wxf.setCell ⟨w.heap.size + 1,3,none⟩ (sv []))
  generalize (wxf.setCell ⟨w.heap.size + 1,3,none⟩ (sv [])) = wxg at *
  clear rc1 rc2 rl e0 e1 e2 e3 g0 g2 g3 el
  clear HXf
  have rc1:=blk_cell HXg.out.rd 1
  have rc2:=blk_cell HXg.out.rd 2
  have rl:=blk_lt HXg.out.rd
  have e0:=blk_cell HXg.out.eb 0
  have e1:=blk_cell HXg.out.eb 1
  have e2:=blk_cell HXg.out.eb 2
  have e3:=blk_cell HXg.out.eb 3
  have g0:=blk_free HXg.out.eb 0
  have g2:=blk_free HXg.out.eb 2
  have g3:=blk_free HXg.out.eb 3
  have el:=blk_lt HXg.out.eb
  simp only [List.getElem?_toArray,List.getElem?_cons_zero,List.getElem?_cons_succ] at rc1 rc2 e0 e1 e2 e3
  clear rc1 rc2 rl e0 e1 e2 e3 g0 g2 g3 el
  have R0:=blk_cell HXg.out.rb 0
  have R1:=blk_cell HXg.out.rb 1
  have R2:=blk_cell HXg.out.rb 2
  have R3:=blk_cell HXg.out.rb 3
  have F0:=blk_free HXg.out.rb 0
  have F1:=blk_free HXg.out.rb 1
  have F2:=blk_free HXg.out.rb 2
  have F3:=blk_free HXg.out.rb 3
  have FL:=blk_lt HXg.out.rb
  simp only [List.getElem?_toArray,List.getElem?_cons_zero,List.getElem?_cons_succ] at R0 R1 R2 R3
  have H4:=Lib.hid (res4 HXg.out.rb (sv []) (.int .i64 k) (.int .i64 0) (sv []))
  have HT:Hid (Turned [q] w ((((wxg.setCell ⟨w.heap.size,0,none⟩ (sv [])).setCell ⟨w.heap.size,1,none⟩ (.int .i64 k)).setCell ⟨w.heap.size,2,none⟩ (.int .i64 0)).setCell ⟨w.heap.size,3,none⟩ (sv []))):=
   tur_set (tur_set (tur_set (tur_set HXg.out.tur (Nat.le_refl _) _) (Nat.le_refl _) _) (Nat.le_refl _) _) (Nat.le_refl _) _
  have HQ:=Lib.hid (show ((((wxg.setCell ⟨w.heap.size,0,none⟩ (sv [])).setCell ⟨w.heap.size,1,none⟩ (.int .i64 k)).setCell ⟨w.heap.size,2,none⟩ (.int .i64 0)).setCell ⟨w.heap.size,3,none⟩ (sv [])).heap[q]? = some (RbO s _ _ _) from by
   have:=HXg.out.ql
   rw [blk_other (by omega),blk_other (by omega),blk_other (by omega),blk_other (by omega)]
   exact HXg.out.rd)
  have rc1:=blk_cell HXg.out.rd 1
  have rc2:=blk_cell HXg.out.rd 2
  have rl:=blk_lt HXg.out.rd
  have e0:=blk_cell HXg.out.eb 0
  have e1:=blk_cell HXg.out.eb 1
  have e2:=blk_cell HXg.out.eb 2
  have e3:=blk_cell HXg.out.eb 3
  have g0:=blk_free HXg.out.eb 0
  have g2:=blk_free HXg.out.eb 2
  have g3:=blk_free HXg.out.eb 3
  have el:=blk_lt HXg.out.eb
  simp only [List.getElem?_toArray,List.getElem?_cons_zero,List.getElem?_cons_succ] at rc1 rc2 e0 e1 e2 e3
  go_wp2_with fail
  change bodyPost _ _ _ _ _ ((((wxg.setCell ⟨w.heap.size,0,none⟩ (sv [])).setCell ⟨w.heap.size,1,none⟩ (.int .i64 k)).setCell ⟨w.heap.size,2,none⟩ (.int .i64 0)).setCell ⟨w.heap.size,3,none⟩ (sv []))
  generalize ((((wxg.setCell ⟨w.heap.size,0,none⟩ (sv [])).setCell ⟨w.heap.size,1,none⟩ (.int .i64 k)).setCell ⟨w.heap.size,2,none⟩ (.int .i64 0)).setCell ⟨w.heap.size,3,none⟩ (sv [])) = wf at *
  have z0:=blk_cell H4.out 0
  have z1:=blk_cell H4.out 1
  have z2:=blk_cell H4.out 2
  have z3:=blk_cell H4.out 3
  simp only [List.getElem?_toArray,List.getElem?_cons_zero,List.getElem?_cons_succ] at z0 z1 z2 z3
  refine bodyPost_ret (v:=entV ⟨[],k,0,[]⟩) (by simp [results,Tryz.results87,go_sem,z0,z1,z2,z3]) rfl ?_
  exact ⟨_,_,rfl,HQ.out,HCX.out,HT.out⟩
 rw [if_neg h1] at HD
 have h1':a + 1 ≤ s.length:=by omega
 have HN:=Lib.hid (rnum_ok q s a bd 1 _ HI0.out.rd hs2 (.inl rfl) h1')
 rw [hnv] at HN
 clear h1 hnv
 go_wp2_with fail
 refine (HN.out).mono ?_;rintro e w1 ⟨rfl,hq,ht⟩
 have HI1:=Lib.hid (HI0.out.turn hq ht)
 clear rc1 rc2 rl e0 e1 e2 e3 g0 g2 g3 el
 clear hq ht HI0
 have rc1:=blk_cell HI1.out.rd 1
 have rc2:=blk_cell HI1.out.rd 2
 have rl:=blk_lt HI1.out.rd
 have e0:=blk_cell HI1.out.eb 0
 have e1:=blk_cell HI1.out.eb 1
 have e2:=blk_cell HI1.out.eb 2
 have e3:=blk_cell HI1.out.eb 3
 have g0:=blk_free HI1.out.eb 0
 have g2:=blk_free HI1.out.eb 2
 have g3:=blk_free HI1.out.eb 3
 have el:=blk_lt HI1.out.eb
 simp only [List.getElem?_toArray,List.getElem?_cons_zero,List.getElem?_cons_succ] at rc1 rc2 e0 e1 e2 e3
 clear HN
 by_cases h2:n = 0 ∨ 140 < n
 ·rw [if_pos h2] at HD
  have hsp:((n:Int) == 0) = true ∨ (((n:Int) == 0) = false ∧ decide ((140:Int) < (n:Int)) = true):=by
   by_cases h20:n = 0
   ·exact .inl (by rw [beq_iff_eq];omega)
   ·exact .inr ⟨by rw [beq_eq_false_iff_ne];omega,decide_eq_true (by omega)⟩
  clear h2
  rcases hsp with hb0 | ⟨hb0,hb1⟩
  all_goals
   go_wp2_with fail
   refine (fault_live q s (a + 1) bd 1303 a _ HI1.out.rd).mono ?_;rintro e w2 ⟨rfl,hq,ht⟩
   have HI2:=Lib.hid (HI1.out.turn hq ht)
   clear rc1 rc2 rl e0 e1 e2 e3 g0 g2 g3 el
   clear hq ht HI1
   have rc1:=blk_cell HI2.out.rd 1
   have rc2:=blk_cell HI2.out.rd 2
   have rl:=blk_lt HI2.out.rd
   have e0:=blk_cell HI2.out.eb 0
   have e1:=blk_cell HI2.out.eb 1
   have e2:=blk_cell HI2.out.eb 2
   have e3:=blk_cell HI2.out.eb 3
   have g0:=blk_free HI2.out.eb 0
   have g2:=blk_free HI2.out.eb 2
   have g3:=blk_free HI2.out.eb 3
   have el:=blk_lt HI2.out.eb
   simp only [List.getElem?_toArray,List.getElem?_cons_zero,List.getElem?_cons_succ] at rc1 rc2 e0 e1 e2 e3
   obtain ⟨ax,px,mx,dx,cx,bx,hRE,hcx,hRR⟩:∃ (ax:Nat) (px:Nm) (mx:Int) (dx:Nm) (cx:Int) (bx:Nat),RE w q s ax px k mx dx cx bx w2 ∧ cx ≠ 0 ∧ R = .error (bx,cx):=⟨_,_,_,_,_,_,HI2.out,by decide,HD.out.symm⟩
   have HX:=Lib.hid hRE
   have HCX:=Lib.hid hcx
   have hc0:(cx == 0) = false:=beq_eq_false_iff_ne.2 hcx
   clear rc1 rc2 rl e0 e1 e2 e3 g0 g2 g3 el
   clear HI2 HD hRE hcx
   subst hRR
   have rc1:=blk_cell HX.out.rd 1
   have rc2:=blk_cell HX.out.rd 2
   have rl:=blk_lt HX.out.rd
   have e0:=blk_cell HX.out.eb 0
   have e1:=blk_cell HX.out.eb 1
   have e2:=blk_cell HX.out.eb 2
   have e3:=blk_cell HX.out.eb 3
   have g0:=blk_free HX.out.eb 0
   have g2:=blk_free HX.out.eb 2
   have g3:=blk_free HX.out.eb 3
   have el:=blk_lt HX.out.eb
   simp only [List.getElem?_toArray,List.getElem?_cons_zero,List.getElem?_cons_succ] at rc1 rc2 e0 e1 e2 e3
   go_wp2_with fail
   refine (rtake_dead q s ax cx bx _ _ HX.out.rd HCX.out hs2).mono ?_;rintro e wxa ⟨rfl,hq,ht⟩
   have HXa:=Lib.hid (HX.out.turn hq ht)
   clear rc1 rc2 rl e0 e1 e2 e3 g0 g2 g3 el
   clear hq ht HX
   have rc1:=blk_cell HXa.out.rd 1
   have rc2:=blk_cell HXa.out.rd 2
   have rl:=blk_lt HXa.out.rd
   have e0:=blk_cell HXa.out.eb 0
   have e1:=blk_cell HXa.out.eb 1
   have e2:=blk_cell HXa.out.eb 2
   have e3:=blk_cell HXa.out.eb 3
   have g0:=blk_free HXa.out.eb 0
   have g2:=blk_free HXa.out.eb 2
   have g3:=blk_free HXa.out.eb 3
   have el:=blk_lt HXa.out.eb
   simp only [List.getElem?_toArray,List.getElem?_cons_zero,List.getElem?_cons_succ] at rc1 rc2 e0 e1 e2 e3
   have HXb:=Lib.hid (HXa.out.path (p' := []))
   go_upto_region 7 with fail
   change Code.wp _ _ _ _ (wxa.setCell ⟨w.heap.size + 1,0,none⟩ (sv []))
   generalize (wxa.setCell ⟨w.heap.size + 1,0,none⟩ (sv [])) = wxb at *
   clear rc1 rc2 rl e0 e1 e2 e3 g0 g2 g3 el
   clear HXa
   have rc1:=blk_cell HXb.out.rd 1
   have rc2:=blk_cell HXb.out.rd 2
   have rl:=blk_lt HXb.out.rd
   have e0:=blk_cell HXb.out.eb 0
   have e1:=blk_cell HXb.out.eb 1
   have e2:=blk_cell HXb.out.eb 2
   have e3:=blk_cell HXb.out.eb 3
   have g0:=blk_free HXb.out.eb 0
   have g2:=blk_free HXb.out.eb 2
   have g3:=blk_free HXb.out.eb 3
   have el:=blk_lt HXb.out.eb
   simp only [List.getElem?_toArray,List.getElem?_cons_zero,List.getElem?_cons_succ] at rc1 rc2 e0 e1 e2 e3
   go_wp2_with fail
   refine (rnum_dead q s ax cx bx _ _ HXb.out.rd HCX.out hs2).mono ?_;rintro e wxc ⟨rfl,hq,ht⟩
   have HXc:=Lib.hid (HXb.out.turn hq ht)
   clear rc1 rc2 rl e0 e1 e2 e3 g0 g2 g3 el
   clear hq ht HXb
   have rc1:=blk_cell HXc.out.rd 1
   have rc2:=blk_cell HXc.out.rd 2
   have rl:=blk_lt HXc.out.rd
   have e0:=blk_cell HXc.out.eb 0
   have e1:=blk_cell HXc.out.eb 1
   have e2:=blk_cell HXc.out.eb 2
   have e3:=blk_cell HXc.out.eb 3
   have g0:=blk_free HXc.out.eb 0
   have g2:=blk_free HXc.out.eb 2
   have g3:=blk_free HXc.out.eb 3
   have el:=blk_lt HXc.out.eb
   simp only [List.getElem?_toArray,List.getElem?_cons_zero,List.getElem?_cons_succ] at rc1 rc2 e0 e1 e2 e3
   have HXd:=Lib.hid (HXc.out.mode (m':=0))
   go_upto_region 17 with fail
   change Code.wp _ _ _ _ (wxc.setCell ⟨w.heap.size + 1,2,none⟩ (.int .i64 0))
   generalize (wxc.setCell ⟨w.heap.size + 1,2,none⟩ (.int .i64 0)) = wxd at *
   clear rc1 rc2 rl e0 e1 e2 e3 g0 g2 g3 el
   clear HXc
   have rc1:=blk_cell HXd.out.rd 1
   have rc2:=blk_cell HXd.out.rd 2
   have rl:=blk_lt HXd.out.rd
   have e0:=blk_cell HXd.out.eb 0
   have e1:=blk_cell HXd.out.eb 1
   have e2:=blk_cell HXd.out.eb 2
   have e3:=blk_cell HXd.out.eb 3
   have g0:=blk_free HXd.out.eb 0
   have g2:=blk_free HXd.out.eb 2
   have g3:=blk_free HXd.out.eb 3
   have el:=blk_lt HXd.out.eb
   simp only [List.getElem?_toArray,List.getElem?_cons_zero,List.getElem?_cons_succ] at rc1 rc2 e0 e1 e2 e3
   go_wp2_with fail
   refine (rnum_dead q s ax cx bx _ _ HXd.out.rd HCX.out hs2).mono ?_;rintro e wxe ⟨rfl,hq,ht⟩
   have HXe:=Lib.hid (HXd.out.turn hq ht)
   clear rc1 rc2 rl e0 e1 e2 e3 g0 g2 g3 el
   clear hq ht HXd
   have rc1:=blk_cell HXe.out.rd 1
   have rc2:=blk_cell HXe.out.rd 2
   have rl:=blk_lt HXe.out.rd
   have e0:=blk_cell HXe.out.eb 0
   have e1:=blk_cell HXe.out.eb 1
   have e2:=blk_cell HXe.out.eb 2
   have e3:=blk_cell HXe.out.eb 3
   have g0:=blk_free HXe.out.eb 0
   have g2:=blk_free HXe.out.eb 2
   have g3:=blk_free HXe.out.eb 3
   have el:=blk_lt HXe.out.eb
   simp only [List.getElem?_toArray,List.getElem?_cons_zero,List.getElem?_cons_succ] at rc1 rc2 e0 e1 e2 e3
   go_wp2_with fail
   refine (rtake_dead q s ax cx bx _ _ HXe.out.rd HCX.out hs2).mono ?_;rintro e wxf ⟨rfl,hq,ht⟩
   have HXf:=Lib.hid (HXe.out.turn hq ht)
   clear rc1 rc2 rl e0 e1 e2 e3 g0 g2 g3 el
   clear hq ht HXe
   have rc1:=blk_cell HXf.out.rd 1
   have rc2:=blk_cell HXf.out.rd 2
   have rl:=blk_lt HXf.out.rd
   have e0:=blk_cell HXf.out.eb 0
   have e1:=blk_cell HXf.out.eb 1
   have e2:=blk_cell HXf.out.eb 2
   have e3:=blk_cell HXf.out.eb 3
   have g0:=blk_free HXf.out.eb 0
   have g2:=blk_free HXf.out.eb 2
   have g3:=blk_free HXf.out.eb 3
   have el:=blk_lt HXf.out.eb
   simp only [List.getElem?_toArray,List.getElem?_cons_zero,List.getElem?_cons_succ] at rc1 rc2 e0 e1 e2 e3
   have HXg:=Lib.hid (HXf.out.data (d' := []))
   go_upto_region 25 with fail
   change Code.wp _ _ _ _ (wxf.setCell ⟨w.heap.size + 1,3,none⟩ (sv []))
   generalize (wxf.setCell ⟨w.heap.size + 1,3,none⟩ (sv [])) = wxg at *
   clear rc1 rc2 rl e0 e1 e2 e3 g0 g2 g3 el
   clear HXf
   have rc1:=blk_cell HXg.out.rd 1
   have rc2:=blk_cell HXg.out.rd 2
   have rl:=blk_lt HXg.out.rd
   have e0:=blk_cell HXg.out.eb 0
   have e1:=blk_cell HXg.out.eb 1
   have e2:=blk_cell HXg.out.eb 2
   have e3:=blk_cell HXg.out.eb 3
   have g0:=blk_free HXg.out.eb 0
   have g2:=blk_free HXg.out.eb 2
   have g3:=blk_free HXg.out.eb 3
   have el:=blk_lt HXg.out.eb
   simp only [List.getElem?_toArray,List.getElem?_cons_zero,List.getElem?_cons_succ] at rc1 rc2 e0 e1 e2 e3
   clear rc1 rc2 rl e0 e1 e2 e3 g0 g2 g3 el
   have R0:=blk_cell HXg.out.rb 0
   have R1:=blk_cell HXg.out.rb 1
   have R2:=blk_cell HXg.out.rb 2
   have R3:=blk_cell HXg.out.rb 3
   have F0:=blk_free HXg.out.rb 0
   have F1:=blk_free HXg.out.rb 1
   have F2:=blk_free HXg.out.rb 2
   have F3:=blk_free HXg.out.rb 3
   have FL:=blk_lt HXg.out.rb
   simp only [List.getElem?_toArray,List.getElem?_cons_zero,List.getElem?_cons_succ] at R0 R1 R2 R3
   have H4:=Lib.hid (res4 HXg.out.rb (sv []) (.int .i64 k) (.int .i64 0) (sv []))
   have HT:Hid (Turned [q] w ((((wxg.setCell ⟨w.heap.size,0,none⟩ (sv [])).setCell ⟨w.heap.size,1,none⟩ (.int .i64 k)).setCell ⟨w.heap.size,2,none⟩ (.int .i64 0)).setCell ⟨w.heap.size,3,none⟩ (sv []))):=
    tur_set (tur_set (tur_set (tur_set HXg.out.tur (Nat.le_refl _) _) (Nat.le_refl _) _) (Nat.le_refl _) _) (Nat.le_refl _) _
   have HQ:=Lib.hid (show ((((wxg.setCell ⟨w.heap.size,0,none⟩ (sv [])).setCell ⟨w.heap.size,1,none⟩ (.int .i64 k)).setCell ⟨w.heap.size,2,none⟩ (.int .i64 0)).setCell ⟨w.heap.size,3,none⟩ (sv [])).heap[q]? = some (RbO s _ _ _) from by
    have:=HXg.out.ql
    rw [blk_other (by omega),blk_other (by omega),blk_other (by omega),blk_other (by omega)]
    exact HXg.out.rd)
   have rc1:=blk_cell HXg.out.rd 1
   have rc2:=blk_cell HXg.out.rd 2
   have rl:=blk_lt HXg.out.rd
   have e0:=blk_cell HXg.out.eb 0
   have e1:=blk_cell HXg.out.eb 1
   have e2:=blk_cell HXg.out.eb 2
   have e3:=blk_cell HXg.out.eb 3
   have g0:=blk_free HXg.out.eb 0
   have g2:=blk_free HXg.out.eb 2
   have g3:=blk_free HXg.out.eb 3
   have el:=blk_lt HXg.out.eb
   simp only [List.getElem?_toArray,List.getElem?_cons_zero,List.getElem?_cons_succ] at rc1 rc2 e0 e1 e2 e3
   go_wp2_with fail
   change bodyPost _ _ _ _ _ ((((wxg.setCell ⟨w.heap.size,0,none⟩ (sv [])).setCell ⟨w.heap.size,1,none⟩ (.int .i64 k)).setCell ⟨w.heap.size,2,none⟩ (.int .i64 0)).setCell ⟨w.heap.size,3,none⟩ (sv []))
   generalize ((((wxg.setCell ⟨w.heap.size,0,none⟩ (sv [])).setCell ⟨w.heap.size,1,none⟩ (.int .i64 k)).setCell ⟨w.heap.size,2,none⟩ (.int .i64 0)).setCell ⟨w.heap.size,3,none⟩ (sv [])) = wf at *
   have z0:=blk_cell H4.out 0
   have z1:=blk_cell H4.out 1
   have z2:=blk_cell H4.out 2
   have z3:=blk_cell H4.out 3
   simp only [List.getElem?_toArray,List.getElem?_cons_zero,List.getElem?_cons_succ] at z0 z1 z2 z3
   refine bodyPost_ret (v:=entV ⟨[],k,0,[]⟩) (by simp [results,Tryz.results87,go_sem,z0,z1,z2,z3]) rfl ?_
   exact ⟨_,_,rfl,HQ.out,HCX.out,HT.out⟩
 rw [if_neg h2] at HD
 have hb0:((n:Int) == 0) = false:=by rw [beq_eq_false_iff_ne];omega
 have hb1:decide ((140:Int) < (n:Int)) = false:=decide_eq_false (by omega)
 have hn140:n ≤ 140:=by omega
 have hn0:n ≠ 0:=by omega
 clear h2
 by_cases h3:s.length < a + 1 + n
 ·rw [if_pos h3] at HD
  go_wp2_with fail
  refine (rtake_short q s (a + 1) bd n _ HI1.out.rd h1' hs2 h3).mono ?_;rintro e w2 ⟨rfl,hq,ht⟩
  have HI2:=Lib.hid (HI1.out.turn hq ht)
  clear rc1 rc2 rl e0 e1 e2 e3 g0 g2 g3 el
  clear hq ht HI1
  have rc1:=blk_cell HI2.out.rd 1
  have rc2:=blk_cell HI2.out.rd 2
  have rl:=blk_lt HI2.out.rd
  have e0:=blk_cell HI2.out.eb 0
  have e1:=blk_cell HI2.out.eb 1
  have e2:=blk_cell HI2.out.eb 2
  have e3:=blk_cell HI2.out.eb 3
  have g0:=blk_free HI2.out.eb 0
  have g2:=blk_free HI2.out.eb 2
  have g3:=blk_free HI2.out.eb 3
  have el:=blk_lt HI2.out.eb
  simp only [List.getElem?_toArray,List.getElem?_cons_zero,List.getElem?_cons_succ] at rc1 rc2 e0 e1 e2 e3
  have HI3:=Lib.hid (HI2.out.path (p' := []))
  go_upto_region 7 with fail
  change Code.wp _ _ _ _ (w2.setCell ⟨w.heap.size + 1,0,none⟩ (sv []))
  generalize (w2.setCell ⟨w.heap.size + 1,0,none⟩ (sv [])) = w3 at *
  clear rc1 rc2 rl e0 e1 e2 e3 g0 g2 g3 el
  clear HI2
  have rc1:=blk_cell HI3.out.rd 1
  have rc2:=blk_cell HI3.out.rd 2
  have rl:=blk_lt HI3.out.rd
  have e0:=blk_cell HI3.out.eb 0
  have e1:=blk_cell HI3.out.eb 1
  have e2:=blk_cell HI3.out.eb 2
  have e3:=blk_cell HI3.out.eb 3
  have g0:=blk_free HI3.out.eb 0
  have g2:=blk_free HI3.out.eb 2
  have g3:=blk_free HI3.out.eb 3
  have el:=blk_lt HI3.out.eb
  simp only [List.getElem?_toArray,List.getElem?_cons_zero,List.getElem?_cons_succ] at rc1 rc2 e0 e1 e2 e3
  clear h3 hb0 hb1
  obtain ⟨ax,px,mx,dx,cx,bx,hRE,hcx,hRR⟩:∃ (ax:Nat) (px:Nm) (mx:Int) (dx:Nm) (cx:Int) (bx:Nat),RE w q s ax px k mx dx cx bx w3 ∧ cx ≠ 0 ∧ R = .error (bx,cx):=⟨_,_,_,_,_,_,HI3.out,by decide,HD.out.symm⟩
  have HX:=Lib.hid hRE
  have HCX:=Lib.hid hcx
  have hc0:(cx == 0) = false:=beq_eq_false_iff_ne.2 hcx
  clear rc1 rc2 rl e0 e1 e2 e3 g0 g2 g3 el
  clear HI3 HD hRE hcx
  subst hRR
  have rc1:=blk_cell HX.out.rd 1
  have rc2:=blk_cell HX.out.rd 2
  have rl:=blk_lt HX.out.rd
  have e0:=blk_cell HX.out.eb 0
  have e1:=blk_cell HX.out.eb 1
  have e2:=blk_cell HX.out.eb 2
  have e3:=blk_cell HX.out.eb 3
  have g0:=blk_free HX.out.eb 0
  have g2:=blk_free HX.out.eb 2
  have g3:=blk_free HX.out.eb 3
  have el:=blk_lt HX.out.eb
  simp only [List.getElem?_toArray,List.getElem?_cons_zero,List.getElem?_cons_succ] at rc1 rc2 e0 e1 e2 e3
  go_wp2_with fail
  refine (rnum_dead q s ax cx bx _ _ HX.out.rd HCX.out hs2).mono ?_;rintro e wxc ⟨rfl,hq,ht⟩
  have HXc:=Lib.hid (HX.out.turn hq ht)
  clear rc1 rc2 rl e0 e1 e2 e3 g0 g2 g3 el
  clear hq ht HX
  have rc1:=blk_cell HXc.out.rd 1
  have rc2:=blk_cell HXc.out.rd 2
  have rl:=blk_lt HXc.out.rd
  have e0:=blk_cell HXc.out.eb 0
  have e1:=blk_cell HXc.out.eb 1
  have e2:=blk_cell HXc.out.eb 2
  have e3:=blk_cell HXc.out.eb 3
  have g0:=blk_free HXc.out.eb 0
  have g2:=blk_free HXc.out.eb 2
  have g3:=blk_free HXc.out.eb 3
  have el:=blk_lt HXc.out.eb
  simp only [List.getElem?_toArray,List.getElem?_cons_zero,List.getElem?_cons_succ] at rc1 rc2 e0 e1 e2 e3
  have HXd:=Lib.hid (HXc.out.mode (m':=0))
  go_upto_region 17 with fail
  change Code.wp _ _ _ _ (wxc.setCell ⟨w.heap.size + 1,2,none⟩ (.int .i64 0))
  generalize (wxc.setCell ⟨w.heap.size + 1,2,none⟩ (.int .i64 0)) = wxd at *
  clear rc1 rc2 rl e0 e1 e2 e3 g0 g2 g3 el
  clear HXc
  have rc1:=blk_cell HXd.out.rd 1
  have rc2:=blk_cell HXd.out.rd 2
  have rl:=blk_lt HXd.out.rd
  have e0:=blk_cell HXd.out.eb 0
  have e1:=blk_cell HXd.out.eb 1
  have e2:=blk_cell HXd.out.eb 2
  have e3:=blk_cell HXd.out.eb 3
  have g0:=blk_free HXd.out.eb 0
  have g2:=blk_free HXd.out.eb 2
  have g3:=blk_free HXd.out.eb 3
  have el:=blk_lt HXd.out.eb
  simp only [List.getElem?_toArray,List.getElem?_cons_zero,List.getElem?_cons_succ] at rc1 rc2 e0 e1 e2 e3
  go_wp2_with fail
  refine (rnum_dead q s ax cx bx _ _ HXd.out.rd HCX.out hs2).mono ?_;rintro e wxe ⟨rfl,hq,ht⟩
  have HXe:=Lib.hid (HXd.out.turn hq ht)
  clear rc1 rc2 rl e0 e1 e2 e3 g0 g2 g3 el
  clear hq ht HXd
  have rc1:=blk_cell HXe.out.rd 1
  have rc2:=blk_cell HXe.out.rd 2
  have rl:=blk_lt HXe.out.rd
  have e0:=blk_cell HXe.out.eb 0
  have e1:=blk_cell HXe.out.eb 1
  have e2:=blk_cell HXe.out.eb 2
  have e3:=blk_cell HXe.out.eb 3
  have g0:=blk_free HXe.out.eb 0
  have g2:=blk_free HXe.out.eb 2
  have g3:=blk_free HXe.out.eb 3
  have el:=blk_lt HXe.out.eb
  simp only [List.getElem?_toArray,List.getElem?_cons_zero,List.getElem?_cons_succ] at rc1 rc2 e0 e1 e2 e3
  go_wp2_with fail
  refine (rtake_dead q s ax cx bx _ _ HXe.out.rd HCX.out hs2).mono ?_;rintro e wxf ⟨rfl,hq,ht⟩
  have HXf:=Lib.hid (HXe.out.turn hq ht)
  clear rc1 rc2 rl e0 e1 e2 e3 g0 g2 g3 el
  clear hq ht HXe
  have rc1:=blk_cell HXf.out.rd 1
  have rc2:=blk_cell HXf.out.rd 2
  have rl:=blk_lt HXf.out.rd
  have e0:=blk_cell HXf.out.eb 0
  have e1:=blk_cell HXf.out.eb 1
  have e2:=blk_cell HXf.out.eb 2
  have e3:=blk_cell HXf.out.eb 3
  have g0:=blk_free HXf.out.eb 0
  have g2:=blk_free HXf.out.eb 2
  have g3:=blk_free HXf.out.eb 3
  have el:=blk_lt HXf.out.eb
  simp only [List.getElem?_toArray,List.getElem?_cons_zero,List.getElem?_cons_succ] at rc1 rc2 e0 e1 e2 e3
  have HXg:=Lib.hid (HXf.out.data (d' := []))
  go_upto_region 25 with fail
  change Code.wp _ _ _ _ (wxf.setCell ⟨w.heap.size + 1,3,none⟩ (sv []))
  generalize (wxf.setCell ⟨w.heap.size + 1,3,none⟩ (sv [])) = wxg at *
  clear rc1 rc2 rl e0 e1 e2 e3 g0 g2 g3 el
  clear HXf
  have rc1:=blk_cell HXg.out.rd 1
  have rc2:=blk_cell HXg.out.rd 2
  have rl:=blk_lt HXg.out.rd
  have e0:=blk_cell HXg.out.eb 0
  have e1:=blk_cell HXg.out.eb 1
  have e2:=blk_cell HXg.out.eb 2
  have e3:=blk_cell HXg.out.eb 3
  have g0:=blk_free HXg.out.eb 0
  have g2:=blk_free HXg.out.eb 2
  have g3:=blk_free HXg.out.eb 3
  have el:=blk_lt HXg.out.eb
  simp only [List.getElem?_toArray,List.getElem?_cons_zero,List.getElem?_cons_succ] at rc1 rc2 e0 e1 e2 e3
  clear rc1 rc2 rl e0 e1 e2 e3 g0 g2 g3 el
  have R0:=blk_cell HXg.out.rb 0
  have R1:=blk_cell HXg.out.rb 1
  have R2:=blk_cell HXg.out.rb 2
  have R3:=blk_cell HXg.out.rb 3
  have F0:=blk_free HXg.out.rb 0
  have F1:=blk_free HXg.out.rb 1
  have F2:=blk_free HXg.out.rb 2
  have F3:=blk_free HXg.out.rb 3
  have FL:=blk_lt HXg.out.rb
  simp only [List.getElem?_toArray,List.getElem?_cons_zero,List.getElem?_cons_succ] at R0 R1 R2 R3
  have H4:=Lib.hid (res4 HXg.out.rb (sv px) (.int .i64 k) (.int .i64 0) (sv []))
  have HT:Hid (Turned [q] w ((((wxg.setCell ⟨w.heap.size,0,none⟩ (sv px)).setCell ⟨w.heap.size,1,none⟩ (.int .i64 k)).setCell ⟨w.heap.size,2,none⟩ (.int .i64 0)).setCell ⟨w.heap.size,3,none⟩ (sv []))):=
   tur_set (tur_set (tur_set (tur_set HXg.out.tur (Nat.le_refl _) _) (Nat.le_refl _) _) (Nat.le_refl _) _) (Nat.le_refl _) _
  have HQ:=Lib.hid (show ((((wxg.setCell ⟨w.heap.size,0,none⟩ (sv px)).setCell ⟨w.heap.size,1,none⟩ (.int .i64 k)).setCell ⟨w.heap.size,2,none⟩ (.int .i64 0)).setCell ⟨w.heap.size,3,none⟩ (sv [])).heap[q]? = some (RbO s _ _ _) from by
   have:=HXg.out.ql
   rw [blk_other (by omega),blk_other (by omega),blk_other (by omega),blk_other (by omega)]
   exact HXg.out.rd)
  have rc1:=blk_cell HXg.out.rd 1
  have rc2:=blk_cell HXg.out.rd 2
  have rl:=blk_lt HXg.out.rd
  have e0:=blk_cell HXg.out.eb 0
  have e1:=blk_cell HXg.out.eb 1
  have e2:=blk_cell HXg.out.eb 2
  have e3:=blk_cell HXg.out.eb 3
  have g0:=blk_free HXg.out.eb 0
  have g2:=blk_free HXg.out.eb 2
  have g3:=blk_free HXg.out.eb 3
  have el:=blk_lt HXg.out.eb
  simp only [List.getElem?_toArray,List.getElem?_cons_zero,List.getElem?_cons_succ] at rc1 rc2 e0 e1 e2 e3
  go_wp2_with fail
  change bodyPost _ _ _ _ _ ((((wxg.setCell ⟨w.heap.size,0,none⟩ (sv px)).setCell ⟨w.heap.size,1,none⟩ (.int .i64 k)).setCell ⟨w.heap.size,2,none⟩ (.int .i64 0)).setCell ⟨w.heap.size,3,none⟩ (sv []))
  generalize ((((wxg.setCell ⟨w.heap.size,0,none⟩ (sv px)).setCell ⟨w.heap.size,1,none⟩ (.int .i64 k)).setCell ⟨w.heap.size,2,none⟩ (.int .i64 0)).setCell ⟨w.heap.size,3,none⟩ (sv [])) = wf at *
  have z0:=blk_cell H4.out 0
  have z1:=blk_cell H4.out 1
  have z2:=blk_cell H4.out 2
  have z3:=blk_cell H4.out 3
  simp only [List.getElem?_toArray,List.getElem?_cons_zero,List.getElem?_cons_succ] at z0 z1 z2 z3
  refine bodyPost_ret (v:=entV ⟨px,k,0,[]⟩) (by simp [results,Tryz.results87,go_sem,z0,z1,z2,z3]) rfl ?_
  exact ⟨_,_,rfl,HQ.out,HCX.out,HT.out⟩
 rw [if_neg h3] at HD
 have h3':a + 1 + n ≤ s.length:=by omega
 have HN:=Lib.hid (rtake_ok q s (a + 1) bd n _ HI1.out.rd hs2 h3')
 have hpl:(sub s (a + 1) n).length = n:=by unfold sub;rw [List.length_take,List.length_drop];omega
 generalize sub s (a + 1) n = p at *
 generalize ha2:a + 1 + n = a2 at *
 have hp0:p ≠ []:=fun e=>hn0 (by rw [← hpl,e];rfl)
 clear h3 ha2
 go_wp2_with fail
 refine (HN.out).mono ?_;rintro e w2 ⟨rfl,hq,ht⟩
 have HI2:=Lib.hid (HI1.out.turn hq ht)
 clear rc1 rc2 rl e0 e1 e2 e3 g0 g2 g3 el
 clear hq ht HI1
 have rc1:=blk_cell HI2.out.rd 1
 have rc2:=blk_cell HI2.out.rd 2
 have rl:=blk_lt HI2.out.rd
 have e0:=blk_cell HI2.out.eb 0
 have e1:=blk_cell HI2.out.eb 1
 have e2:=blk_cell HI2.out.eb 2
 have e3:=blk_cell HI2.out.eb 3
 have g0:=blk_free HI2.out.eb 0
 have g2:=blk_free HI2.out.eb 2
 have g3:=blk_free HI2.out.eb 3
 have el:=blk_lt HI2.out.eb
 simp only [List.getElem?_toArray,List.getElem?_cons_zero,List.getElem?_cons_succ] at rc1 rc2 e0 e1 e2 e3
 clear HN hb0 hb1
 have HI3:=Lib.hid (HI2.out.path (p':=p))
 go_upto_region 7 with fail
 change Code.wp _ _ _ _ (w2.setCell ⟨w.heap.size + 1,0,none⟩ (sv p))
 generalize (w2.setCell ⟨w.heap.size + 1,0,none⟩ (sv p)) = W3 at *
 clear rc1 rc2 rl e0 e1 e2 e3 g0 g2 g3 el
 clear HI2
 have rc1:=blk_cell HI3.out.rd 1
 have rc2:=blk_cell HI3.out.rd 2
 have rl:=blk_lt HI3.out.rd
 have e0:=blk_cell HI3.out.eb 0
 have e1:=blk_cell HI3.out.eb 1
 have e2:=blk_cell HI3.out.eb 2
 have e3:=blk_cell HI3.out.eb 3
 have g0:=blk_free HI3.out.eb 0
 have g2:=blk_free HI3.out.eb 2
 have g3:=blk_free HI3.out.eb 3
 have el:=blk_lt HI3.out.eb
 simp only [List.getElem?_toArray,List.getElem?_cons_zero,List.getElem?_cons_succ] at rc1 rc2 e0 e1 e2 e3
 rw [pathE_eq] at HD
 have HIC:=Lib.hid (path.rIsClean_any p W3 (by omega))
 go_wp2_with fail
 refine HIC.out.mono ?_;rintro e w4 ⟨rfl,hb⟩
 have HI4:=Lib.hid (HI3.out.below hb)
 clear rc1 rc2 rl e0 e1 e2 e3 g0 g2 g3 el
 clear hb HIC HI3
 have rc1:=blk_cell HI4.out.rd 1
 have rc2:=blk_cell HI4.out.rd 2
 have rl:=blk_lt HI4.out.rd
 have e0:=blk_cell HI4.out.eb 0
 have e1:=blk_cell HI4.out.eb 1
 have e2:=blk_cell HI4.out.eb 2
 have e3:=blk_cell HI4.out.eb 3
 have g0:=blk_free HI4.out.eb 0
 have g2:=blk_free HI4.out.eb 2
 have g3:=blk_free HI4.out.eb 3
 have el:=blk_lt HI4.out.eb
 simp only [List.getElem?_toArray,List.getElem?_cons_zero,List.getElem?_cons_succ] at rc1 rc2 e0 e1 e2 e3
 cases hcl:cleanB p with
 | false =>
  have hpe:¬ ((if p = [] ∨ cleanB p = false then (1303:Int) else aheadF es ⟨p,k,0,[]⟩) = 0):=by rw [if_pos (.inr hcl)];decide
  rw [if_pos hpe,if_pos (.inr hcl)] at HD
  clear hpe
  go_wp2_with fail
  refine (fault_live q s a2 bd 1303 a _ HI4.out.rd).mono ?_;rintro e w5 ⟨rfl,hq,ht⟩
  have HI5:=Lib.hid (HI4.out.turn hq ht)
  clear rc1 rc2 rl e0 e1 e2 e3 g0 g2 g3 el
  clear hq ht HI4
  have rc1:=blk_cell HI5.out.rd 1
  have rc2:=blk_cell HI5.out.rd 2
  have rl:=blk_lt HI5.out.rd
  have e0:=blk_cell HI5.out.eb 0
  have e1:=blk_cell HI5.out.eb 1
  have e2:=blk_cell HI5.out.eb 2
  have e3:=blk_cell HI5.out.eb 3
  have g0:=blk_free HI5.out.eb 0
  have g2:=blk_free HI5.out.eb 2
  have g3:=blk_free HI5.out.eb 3
  have el:=blk_lt HI5.out.eb
  simp only [List.getElem?_toArray,List.getElem?_cons_zero,List.getElem?_cons_succ] at rc1 rc2 e0 e1 e2 e3
  obtain ⟨ax,px,mx,dx,cx,bx,hRE,hcx,hRR⟩:∃ (ax:Nat) (px:Nm) (mx:Int) (dx:Nm) (cx:Int) (bx:Nat),RE w q s ax px k mx dx cx bx w5 ∧ cx ≠ 0 ∧ R = .error (bx,cx):=⟨_,_,_,_,_,_,HI5.out,by decide,HD.out.symm⟩
  have HX:=Lib.hid hRE
  have HCX:=Lib.hid hcx
  have hc0:(cx == 0) = false:=beq_eq_false_iff_ne.2 hcx
  clear rc1 rc2 rl e0 e1 e2 e3 g0 g2 g3 el
  clear HI5 HD hRE hcx
  subst hRR
  have rc1:=blk_cell HX.out.rd 1
  have rc2:=blk_cell HX.out.rd 2
  have rl:=blk_lt HX.out.rd
  have e0:=blk_cell HX.out.eb 0
  have e1:=blk_cell HX.out.eb 1
  have e2:=blk_cell HX.out.eb 2
  have e3:=blk_cell HX.out.eb 3
  have g0:=blk_free HX.out.eb 0
  have g2:=blk_free HX.out.eb 2
  have g3:=blk_free HX.out.eb 3
  have el:=blk_lt HX.out.eb
  simp only [List.getElem?_toArray,List.getElem?_cons_zero,List.getElem?_cons_succ] at rc1 rc2 e0 e1 e2 e3
  go_wp2_with fail
  refine (rnum_dead q s ax cx bx _ _ HX.out.rd HCX.out hs2).mono ?_;rintro e wxc ⟨rfl,hq,ht⟩
  have HXc:=Lib.hid (HX.out.turn hq ht)
  clear rc1 rc2 rl e0 e1 e2 e3 g0 g2 g3 el
  clear hq ht HX
  have rc1:=blk_cell HXc.out.rd 1
  have rc2:=blk_cell HXc.out.rd 2
  have rl:=blk_lt HXc.out.rd
  have e0:=blk_cell HXc.out.eb 0
  have e1:=blk_cell HXc.out.eb 1
  have e2:=blk_cell HXc.out.eb 2
  have e3:=blk_cell HXc.out.eb 3
  have g0:=blk_free HXc.out.eb 0
  have g2:=blk_free HXc.out.eb 2
  have g3:=blk_free HXc.out.eb 3
  have el:=blk_lt HXc.out.eb
  simp only [List.getElem?_toArray,List.getElem?_cons_zero,List.getElem?_cons_succ] at rc1 rc2 e0 e1 e2 e3
  have HXd:=Lib.hid (HXc.out.mode (m':=0))
  go_upto_region 17 with fail
  change Code.wp _ _ _ _ (wxc.setCell ⟨w.heap.size + 1,2,none⟩ (.int .i64 0))
  generalize (wxc.setCell ⟨w.heap.size + 1,2,none⟩ (.int .i64 0)) = wxd at *
  clear rc1 rc2 rl e0 e1 e2 e3 g0 g2 g3 el
  clear HXc
  have rc1:=blk_cell HXd.out.rd 1
  have rc2:=blk_cell HXd.out.rd 2
  have rl:=blk_lt HXd.out.rd
  have e0:=blk_cell HXd.out.eb 0
  have e1:=blk_cell HXd.out.eb 1
  have e2:=blk_cell HXd.out.eb 2
  have e3:=blk_cell HXd.out.eb 3
  have g0:=blk_free HXd.out.eb 0
  have g2:=blk_free HXd.out.eb 2
  have g3:=blk_free HXd.out.eb 3
  have el:=blk_lt HXd.out.eb
  simp only [List.getElem?_toArray,List.getElem?_cons_zero,List.getElem?_cons_succ] at rc1 rc2 e0 e1 e2 e3
  go_wp2_with fail
  refine (rnum_dead q s ax cx bx _ _ HXd.out.rd HCX.out hs2).mono ?_;rintro e wxe ⟨rfl,hq,ht⟩
  have HXe:=Lib.hid (HXd.out.turn hq ht)
  clear rc1 rc2 rl e0 e1 e2 e3 g0 g2 g3 el
  clear hq ht HXd
  have rc1:=blk_cell HXe.out.rd 1
  have rc2:=blk_cell HXe.out.rd 2
  have rl:=blk_lt HXe.out.rd
  have e0:=blk_cell HXe.out.eb 0
  have e1:=blk_cell HXe.out.eb 1
  have e2:=blk_cell HXe.out.eb 2
  have e3:=blk_cell HXe.out.eb 3
  have g0:=blk_free HXe.out.eb 0
  have g2:=blk_free HXe.out.eb 2
  have g3:=blk_free HXe.out.eb 3
  have el:=blk_lt HXe.out.eb
  simp only [List.getElem?_toArray,List.getElem?_cons_zero,List.getElem?_cons_succ] at rc1 rc2 e0 e1 e2 e3
  go_wp2_with fail
  refine (rtake_dead q s ax cx bx _ _ HXe.out.rd HCX.out hs2).mono ?_;rintro e wxf ⟨rfl,hq,ht⟩
  have HXf:=Lib.hid (HXe.out.turn hq ht)
  clear rc1 rc2 rl e0 e1 e2 e3 g0 g2 g3 el
  clear hq ht HXe
  have rc1:=blk_cell HXf.out.rd 1
  have rc2:=blk_cell HXf.out.rd 2
  have rl:=blk_lt HXf.out.rd
  have e0:=blk_cell HXf.out.eb 0
  have e1:=blk_cell HXf.out.eb 1
  have e2:=blk_cell HXf.out.eb 2
  have e3:=blk_cell HXf.out.eb 3
  have g0:=blk_free HXf.out.eb 0
  have g2:=blk_free HXf.out.eb 2
  have g3:=blk_free HXf.out.eb 3
  have el:=blk_lt HXf.out.eb
  simp only [List.getElem?_toArray,List.getElem?_cons_zero,List.getElem?_cons_succ] at rc1 rc2 e0 e1 e2 e3
  have HXg:=Lib.hid (HXf.out.data (d' := []))
  go_upto_region 25 with fail
  change Code.wp _ _ _ _ (wxf.setCell ⟨w.heap.size + 1,3,none⟩ (sv []))
  generalize (wxf.setCell ⟨w.heap.size + 1,3,none⟩ (sv [])) = wxg at *
  clear rc1 rc2 rl e0 e1 e2 e3 g0 g2 g3 el
  clear HXf
  have rc1:=blk_cell HXg.out.rd 1
  have rc2:=blk_cell HXg.out.rd 2
  have rl:=blk_lt HXg.out.rd
  have e0:=blk_cell HXg.out.eb 0
  have e1:=blk_cell HXg.out.eb 1
  have e2:=blk_cell HXg.out.eb 2
  have e3:=blk_cell HXg.out.eb 3
  have g0:=blk_free HXg.out.eb 0
  have g2:=blk_free HXg.out.eb 2
  have g3:=blk_free HXg.out.eb 3
  have el:=blk_lt HXg.out.eb
  simp only [List.getElem?_toArray,List.getElem?_cons_zero,List.getElem?_cons_succ] at rc1 rc2 e0 e1 e2 e3
  clear rc1 rc2 rl e0 e1 e2 e3 g0 g2 g3 el
  have R0:=blk_cell HXg.out.rb 0
  have R1:=blk_cell HXg.out.rb 1
  have R2:=blk_cell HXg.out.rb 2
  have R3:=blk_cell HXg.out.rb 3
  have F0:=blk_free HXg.out.rb 0
  have F1:=blk_free HXg.out.rb 1
  have F2:=blk_free HXg.out.rb 2
  have F3:=blk_free HXg.out.rb 3
  have FL:=blk_lt HXg.out.rb
  simp only [List.getElem?_toArray,List.getElem?_cons_zero,List.getElem?_cons_succ] at R0 R1 R2 R3
  have H4:=Lib.hid (res4 HXg.out.rb (sv px) (.int .i64 k) (.int .i64 0) (sv []))
  have HT:Hid (Turned [q] w ((((wxg.setCell ⟨w.heap.size,0,none⟩ (sv px)).setCell ⟨w.heap.size,1,none⟩ (.int .i64 k)).setCell ⟨w.heap.size,2,none⟩ (.int .i64 0)).setCell ⟨w.heap.size,3,none⟩ (sv []))):=
   tur_set (tur_set (tur_set (tur_set HXg.out.tur (Nat.le_refl _) _) (Nat.le_refl _) _) (Nat.le_refl _) _) (Nat.le_refl _) _
  have HQ:=Lib.hid (show ((((wxg.setCell ⟨w.heap.size,0,none⟩ (sv px)).setCell ⟨w.heap.size,1,none⟩ (.int .i64 k)).setCell ⟨w.heap.size,2,none⟩ (.int .i64 0)).setCell ⟨w.heap.size,3,none⟩ (sv [])).heap[q]? = some (RbO s _ _ _) from by
   have:=HXg.out.ql
   rw [blk_other (by omega),blk_other (by omega),blk_other (by omega),blk_other (by omega)]
   exact HXg.out.rd)
  have rc1:=blk_cell HXg.out.rd 1
  have rc2:=blk_cell HXg.out.rd 2
  have rl:=blk_lt HXg.out.rd
  have e0:=blk_cell HXg.out.eb 0
  have e1:=blk_cell HXg.out.eb 1
  have e2:=blk_cell HXg.out.eb 2
  have e3:=blk_cell HXg.out.eb 3
  have g0:=blk_free HXg.out.eb 0
  have g2:=blk_free HXg.out.eb 2
  have g3:=blk_free HXg.out.eb 3
  have el:=blk_lt HXg.out.eb
  simp only [List.getElem?_toArray,List.getElem?_cons_zero,List.getElem?_cons_succ] at rc1 rc2 e0 e1 e2 e3
  go_wp2_with fail
  change bodyPost _ _ _ _ _ ((((wxg.setCell ⟨w.heap.size,0,none⟩ (sv px)).setCell ⟨w.heap.size,1,none⟩ (.int .i64 k)).setCell ⟨w.heap.size,2,none⟩ (.int .i64 0)).setCell ⟨w.heap.size,3,none⟩ (sv []))
  generalize ((((wxg.setCell ⟨w.heap.size,0,none⟩ (sv px)).setCell ⟨w.heap.size,1,none⟩ (.int .i64 k)).setCell ⟨w.heap.size,2,none⟩ (.int .i64 0)).setCell ⟨w.heap.size,3,none⟩ (sv [])) = wf at *
  have z0:=blk_cell H4.out 0
  have z1:=blk_cell H4.out 1
  have z2:=blk_cell H4.out 2
  have z3:=blk_cell H4.out 3
  simp only [List.getElem?_toArray,List.getElem?_cons_zero,List.getElem?_cons_succ] at z0 z1 z2 z3
  refine bodyPost_ret (v:=entV ⟨px,k,0,[]⟩) (by simp [results,Tryz.results87,go_sem,z0,z1,z2,z3]) rfl ?_
  exact ⟨_,_,rfl,HQ.out,HCX.out,HT.out⟩
 | true =>
 rw [show (if p = [] ∨ cleanB p = false then (1303:Int) else aheadF es ⟨p,k,0,[]⟩) = aheadF es ⟨p,k,0,[]⟩ from if_neg (fun h=>h.elim hp0 (by rw [hcl];decide))] at HD
 have HAP:=Lib.hid (HAH.out p w4 HI4.out.tur (by omega))
 clear HAH
 generalize aheadF es ⟨p,k,0,[]⟩ = pc at *
 go_wp2_with fail
 refine HAP.out.mono ?_;rintro e w5 ⟨rfl,hb⟩
 have HI5:=Lib.hid (HI4.out.below hb)
 clear rc1 rc2 rl e0 e1 e2 e3 g0 g2 g3 el
 clear hb HAP HI4
 have rc1:=blk_cell HI5.out.rd 1
 have rc2:=blk_cell HI5.out.rd 2
 have rl:=blk_lt HI5.out.rd
 have e0:=blk_cell HI5.out.eb 0
 have e1:=blk_cell HI5.out.eb 1
 have e2:=blk_cell HI5.out.eb 2
 have e3:=blk_cell HI5.out.eb 3
 have g0:=blk_free HI5.out.eb 0
 have g2:=blk_free HI5.out.eb 2
 have g3:=blk_free HI5.out.eb 3
 have el:=blk_lt HI5.out.eb
 simp only [List.getElem?_toArray,List.getElem?_cons_zero,List.getElem?_cons_succ] at rc1 rc2 e0 e1 e2 e3
 by_cases h4:pc ≠ 0
 ·rw [if_pos h4] at HD
  have HH4:=Lib.hid h4
  clear h4
  go_wp2_with fail
  refine (fault_live q s a2 bd pc a _ HI5.out.rd).mono ?_;rintro e w6 ⟨rfl,hq,ht⟩
  have HI6:=Lib.hid (HI5.out.turn hq ht)
  clear rc1 rc2 rl e0 e1 e2 e3 g0 g2 g3 el
  clear hq ht HI5
  have rc1:=blk_cell HI6.out.rd 1
  have rc2:=blk_cell HI6.out.rd 2
  have rl:=blk_lt HI6.out.rd
  have e0:=blk_cell HI6.out.eb 0
  have e1:=blk_cell HI6.out.eb 1
  have e2:=blk_cell HI6.out.eb 2
  have e3:=blk_cell HI6.out.eb 3
  have g0:=blk_free HI6.out.eb 0
  have g2:=blk_free HI6.out.eb 2
  have g3:=blk_free HI6.out.eb 3
  have el:=blk_lt HI6.out.eb
  simp only [List.getElem?_toArray,List.getElem?_cons_zero,List.getElem?_cons_succ] at rc1 rc2 e0 e1 e2 e3
  obtain ⟨ax,px,mx,dx,cx,bx,hRE,hcx,hRR⟩:∃ (ax:Nat) (px:Nm) (mx:Int) (dx:Nm) (cx:Int) (bx:Nat),RE w q s ax px k mx dx cx bx w6 ∧ cx ≠ 0 ∧ R = .error (bx,cx):=⟨_,_,_,_,_,_,HI6.out,HH4.out,HD.out.symm⟩
  have HX:=Lib.hid hRE
  have HCX:=Lib.hid hcx
  have hc0:(cx == 0) = false:=beq_eq_false_iff_ne.2 hcx
  clear rc1 rc2 rl e0 e1 e2 e3 g0 g2 g3 el
  clear HI6 HD hRE hcx
  subst hRR
  have rc1:=blk_cell HX.out.rd 1
  have rc2:=blk_cell HX.out.rd 2
  have rl:=blk_lt HX.out.rd
  have e0:=blk_cell HX.out.eb 0
  have e1:=blk_cell HX.out.eb 1
  have e2:=blk_cell HX.out.eb 2
  have e3:=blk_cell HX.out.eb 3
  have g0:=blk_free HX.out.eb 0
  have g2:=blk_free HX.out.eb 2
  have g3:=blk_free HX.out.eb 3
  have el:=blk_lt HX.out.eb
  simp only [List.getElem?_toArray,List.getElem?_cons_zero,List.getElem?_cons_succ] at rc1 rc2 e0 e1 e2 e3
  go_wp2_with fail
  refine (rnum_dead q s ax cx bx _ _ HX.out.rd HCX.out hs2).mono ?_;rintro e wxc ⟨rfl,hq,ht⟩
  have HXc:=Lib.hid (HX.out.turn hq ht)
  clear rc1 rc2 rl e0 e1 e2 e3 g0 g2 g3 el
  clear hq ht HX
  have rc1:=blk_cell HXc.out.rd 1
  have rc2:=blk_cell HXc.out.rd 2
  have rl:=blk_lt HXc.out.rd
  have e0:=blk_cell HXc.out.eb 0
  have e1:=blk_cell HXc.out.eb 1
  have e2:=blk_cell HXc.out.eb 2
  have e3:=blk_cell HXc.out.eb 3
  have g0:=blk_free HXc.out.eb 0
  have g2:=blk_free HXc.out.eb 2
  have g3:=blk_free HXc.out.eb 3
  have el:=blk_lt HXc.out.eb
  simp only [List.getElem?_toArray,List.getElem?_cons_zero,List.getElem?_cons_succ] at rc1 rc2 e0 e1 e2 e3
  have HXd:=Lib.hid (HXc.out.mode (m':=0))
  go_upto_region 17 with fail
  change Code.wp _ _ _ _ (wxc.setCell ⟨w.heap.size + 1,2,none⟩ (.int .i64 0))
  generalize (wxc.setCell ⟨w.heap.size + 1,2,none⟩ (.int .i64 0)) = wxd at *
  clear rc1 rc2 rl e0 e1 e2 e3 g0 g2 g3 el
  clear HXc
  have rc1:=blk_cell HXd.out.rd 1
  have rc2:=blk_cell HXd.out.rd 2
  have rl:=blk_lt HXd.out.rd
  have e0:=blk_cell HXd.out.eb 0
  have e1:=blk_cell HXd.out.eb 1
  have e2:=blk_cell HXd.out.eb 2
  have e3:=blk_cell HXd.out.eb 3
  have g0:=blk_free HXd.out.eb 0
  have g2:=blk_free HXd.out.eb 2
  have g3:=blk_free HXd.out.eb 3
  have el:=blk_lt HXd.out.eb
  simp only [List.getElem?_toArray,List.getElem?_cons_zero,List.getElem?_cons_succ] at rc1 rc2 e0 e1 e2 e3
  go_wp2_with fail
  refine (rnum_dead q s ax cx bx _ _ HXd.out.rd HCX.out hs2).mono ?_;rintro e wxe ⟨rfl,hq,ht⟩
  have HXe:=Lib.hid (HXd.out.turn hq ht)
  clear rc1 rc2 rl e0 e1 e2 e3 g0 g2 g3 el
  clear hq ht HXd
  have rc1:=blk_cell HXe.out.rd 1
  have rc2:=blk_cell HXe.out.rd 2
  have rl:=blk_lt HXe.out.rd
  have e0:=blk_cell HXe.out.eb 0
  have e1:=blk_cell HXe.out.eb 1
  have e2:=blk_cell HXe.out.eb 2
  have e3:=blk_cell HXe.out.eb 3
  have g0:=blk_free HXe.out.eb 0
  have g2:=blk_free HXe.out.eb 2
  have g3:=blk_free HXe.out.eb 3
  have el:=blk_lt HXe.out.eb
  simp only [List.getElem?_toArray,List.getElem?_cons_zero,List.getElem?_cons_succ] at rc1 rc2 e0 e1 e2 e3
  go_wp2_with fail
  refine (rtake_dead q s ax cx bx _ _ HXe.out.rd HCX.out hs2).mono ?_;rintro e wxf ⟨rfl,hq,ht⟩
  have HXf:=Lib.hid (HXe.out.turn hq ht)
  clear rc1 rc2 rl e0 e1 e2 e3 g0 g2 g3 el
  clear hq ht HXe
  have rc1:=blk_cell HXf.out.rd 1
  have rc2:=blk_cell HXf.out.rd 2
  have rl:=blk_lt HXf.out.rd
  have e0:=blk_cell HXf.out.eb 0
  have e1:=blk_cell HXf.out.eb 1
  have e2:=blk_cell HXf.out.eb 2
  have e3:=blk_cell HXf.out.eb 3
  have g0:=blk_free HXf.out.eb 0
  have g2:=blk_free HXf.out.eb 2
  have g3:=blk_free HXf.out.eb 3
  have el:=blk_lt HXf.out.eb
  simp only [List.getElem?_toArray,List.getElem?_cons_zero,List.getElem?_cons_succ] at rc1 rc2 e0 e1 e2 e3
  have HXg:=Lib.hid (HXf.out.data (d' := []))
  go_upto_region 25 with fail
  change Code.wp _ _ _ _ (wxf.setCell ⟨w.heap.size + 1,3,none⟩ (sv []))
  generalize (wxf.setCell ⟨w.heap.size + 1,3,none⟩ (sv [])) = wxg at *
  clear rc1 rc2 rl e0 e1 e2 e3 g0 g2 g3 el
  clear HXf
  have rc1:=blk_cell HXg.out.rd 1
  have rc2:=blk_cell HXg.out.rd 2
  have rl:=blk_lt HXg.out.rd
  have e0:=blk_cell HXg.out.eb 0
  have e1:=blk_cell HXg.out.eb 1
  have e2:=blk_cell HXg.out.eb 2
  have e3:=blk_cell HXg.out.eb 3
  have g0:=blk_free HXg.out.eb 0
  have g2:=blk_free HXg.out.eb 2
  have g3:=blk_free HXg.out.eb 3
  have el:=blk_lt HXg.out.eb
  simp only [List.getElem?_toArray,List.getElem?_cons_zero,List.getElem?_cons_succ] at rc1 rc2 e0 e1 e2 e3
  clear rc1 rc2 rl e0 e1 e2 e3 g0 g2 g3 el
  have R0:=blk_cell HXg.out.rb 0
  have R1:=blk_cell HXg.out.rb 1
  have R2:=blk_cell HXg.out.rb 2
  have R3:=blk_cell HXg.out.rb 3
  have F0:=blk_free HXg.out.rb 0
  have F1:=blk_free HXg.out.rb 1
  have F2:=blk_free HXg.out.rb 2
  have F3:=blk_free HXg.out.rb 3
  have FL:=blk_lt HXg.out.rb
  simp only [List.getElem?_toArray,List.getElem?_cons_zero,List.getElem?_cons_succ] at R0 R1 R2 R3
  have H4:=Lib.hid (res4 HXg.out.rb (sv px) (.int .i64 k) (.int .i64 0) (sv []))
  have HT:Hid (Turned [q] w ((((wxg.setCell ⟨w.heap.size,0,none⟩ (sv px)).setCell ⟨w.heap.size,1,none⟩ (.int .i64 k)).setCell ⟨w.heap.size,2,none⟩ (.int .i64 0)).setCell ⟨w.heap.size,3,none⟩ (sv []))):=
   tur_set (tur_set (tur_set (tur_set HXg.out.tur (Nat.le_refl _) _) (Nat.le_refl _) _) (Nat.le_refl _) _) (Nat.le_refl _) _
  have HQ:=Lib.hid (show ((((wxg.setCell ⟨w.heap.size,0,none⟩ (sv px)).setCell ⟨w.heap.size,1,none⟩ (.int .i64 k)).setCell ⟨w.heap.size,2,none⟩ (.int .i64 0)).setCell ⟨w.heap.size,3,none⟩ (sv [])).heap[q]? = some (RbO s _ _ _) from by
   have:=HXg.out.ql
   rw [blk_other (by omega),blk_other (by omega),blk_other (by omega),blk_other (by omega)]
   exact HXg.out.rd)
  have rc1:=blk_cell HXg.out.rd 1
  have rc2:=blk_cell HXg.out.rd 2
  have rl:=blk_lt HXg.out.rd
  have e0:=blk_cell HXg.out.eb 0
  have e1:=blk_cell HXg.out.eb 1
  have e2:=blk_cell HXg.out.eb 2
  have e3:=blk_cell HXg.out.eb 3
  have g0:=blk_free HXg.out.eb 0
  have g2:=blk_free HXg.out.eb 2
  have g3:=blk_free HXg.out.eb 3
  have el:=blk_lt HXg.out.eb
  simp only [List.getElem?_toArray,List.getElem?_cons_zero,List.getElem?_cons_succ] at rc1 rc2 e0 e1 e2 e3
  go_wp2_with fail
  change bodyPost _ _ _ _ _ ((((wxg.setCell ⟨w.heap.size,0,none⟩ (sv px)).setCell ⟨w.heap.size,1,none⟩ (.int .i64 k)).setCell ⟨w.heap.size,2,none⟩ (.int .i64 0)).setCell ⟨w.heap.size,3,none⟩ (sv []))
  generalize ((((wxg.setCell ⟨w.heap.size,0,none⟩ (sv px)).setCell ⟨w.heap.size,1,none⟩ (.int .i64 k)).setCell ⟨w.heap.size,2,none⟩ (.int .i64 0)).setCell ⟨w.heap.size,3,none⟩ (sv [])) = wf at *
  have z0:=blk_cell H4.out 0
  have z1:=blk_cell H4.out 1
  have z2:=blk_cell H4.out 2
  have z3:=blk_cell H4.out 3
  simp only [List.getElem?_toArray,List.getElem?_cons_zero,List.getElem?_cons_succ] at z0 z1 z2 z3
  refine bodyPost_ret (v:=entV ⟨px,k,0,[]⟩) (by simp [results,Tryz.results87,go_sem,z0,z1,z2,z3]) rfl ?_
  exact ⟨_,_,rfl,HQ.out,HCX.out,HT.out⟩
 rw [if_neg h4] at HD
 obtain rfl:pc = 0:=Classical.not_not.1 h4
 clear h4
 go_wp2_with fail
 refine (fault_zero q s a2 bd a _ HI5.out.rd).mono ?_;rintro e w6 ⟨rfl,hq,ht⟩
 have HI6:=Lib.hid (HI5.out.turn hq ht)
 clear rc1 rc2 rl e0 e1 e2 e3 g0 g2 g3 el
 clear hq ht HI5
 have rc1:=blk_cell HI6.out.rd 1
 have rc2:=blk_cell HI6.out.rd 2
 have rl:=blk_lt HI6.out.rd
 have e0:=blk_cell HI6.out.eb 0
 have e1:=blk_cell HI6.out.eb 1
 have e2:=blk_cell HI6.out.eb 2
 have e3:=blk_cell HI6.out.eb 3
 have g0:=blk_free HI6.out.eb 0
 have g2:=blk_free HI6.out.eb 2
 have g3:=blk_free HI6.out.eb 3
 have el:=blk_lt HI6.out.eb
 simp only [List.getElem?_toArray,List.getElem?_cons_zero,List.getElem?_cons_succ] at rc1 rc2 e0 e1 e2 e3
 have HMY:=Lib.hid (HMAY.out p (w6.alloc (entO ⟨p,k,0,[]⟩)) (HI6.out.tur.alloc _) hcl hp0 (by omega))
 have HI7:Hid (RE w q s a2 p k 0 [] 0 a (w6.alloc (entO ⟨p,k,0,[]⟩))):=HI6.out.below ((Below.refl _ _).alloc (Nat.le_refl _) _)
 have hnew:=blk_new w6 (entO ⟨p,k,0,[]⟩)
 go_upto_region 13 with fail
 change Code.wp _ _ _ _ (w6.alloc (entO ⟨p,k,0,[]⟩))
 generalize hbn:w6.heap.size = bn at *
 generalize (w6.alloc (entO ⟨p,k,0,[]⟩)) = W7 at *
 clear rc1 rc2 rl e0 e1 e2 e3 g0 g2 g3 el
 clear HI6 hbn
 have rc1:=blk_cell HI7.out.rd 1
 have rc2:=blk_cell HI7.out.rd 2
 have rl:=blk_lt HI7.out.rd
 have e0:=blk_cell HI7.out.eb 0
 have e1:=blk_cell HI7.out.eb 1
 have e2:=blk_cell HI7.out.eb 2
 have e3:=blk_cell HI7.out.eb 3
 have g0:=blk_free HI7.out.eb 0
 have g2:=blk_free HI7.out.eb 2
 have g3:=blk_free HI7.out.eb 3
 have el:=blk_lt HI7.out.eb
 simp only [List.getElem?_toArray,List.getElem?_cons_zero,List.getElem?_cons_succ] at rc1 rc2 e0 e1 e2 e3
 have j0:=blk_cell hnew 0
 have j1:=blk_cell hnew 1
 have j2:=blk_cell hnew 2
 have j3:=blk_cell hnew 3
 have jl:=blk_lt hnew
 simp only [entO,List.getElem?_toArray,List.getElem?_cons_zero,List.getElem?_cons_succ] at j0 j1 j2 j3
 clear hnew
 go_wp2_with fail
 refine HMY.out.mono ?_;rintro e w8 ⟨rfl,hb⟩
 have HI8:=Lib.hid (HI7.out.below hb)
 clear rc1 rc2 rl e0 e1 e2 e3 g0 g2 g3 el
 clear hb HMY HMAY HI7 j0 j1 j2 j3 jl
 have rc1:=blk_cell HI8.out.rd 1
 have rc2:=blk_cell HI8.out.rd 2
 have rl:=blk_lt HI8.out.rd
 have e0:=blk_cell HI8.out.eb 0
 have e1:=blk_cell HI8.out.eb 1
 have e2:=blk_cell HI8.out.eb 2
 have e3:=blk_cell HI8.out.eb 3
 have g0:=blk_free HI8.out.eb 0
 have g2:=blk_free HI8.out.eb 2
 have g3:=blk_free HI8.out.eb 3
 have el:=blk_lt HI8.out.eb
 simp only [List.getElem?_toArray,List.getElem?_cons_zero,List.getElem?_cons_succ] at rc1 rc2 e0 e1 e2 e3
 rcases HSK.out ⟨p,k,0,[]⟩ with ⟨hf,hg⟩ | ⟨F',G',hf,hg,-⟩
 ·rw [hf] at HD
  simp only at HD
  have hgb:(!(applyF G ⟨p,k,0,[]⟩).isSome) = true:=by rw [hg];rfl
  have hgc:(applyF G ⟨p,k,0,[]⟩).isSome = false:=by rw [hg];rfl
  clear hf hg HSK
  rw [hgc]
  go_wp2_with fail
  refine (fault_live q s a2 a 1305 a _ HI8.out.rd).mono ?_;rintro e w9 ⟨rfl,hq,ht⟩
  have HI9:=Lib.hid (HI8.out.turn hq ht)
  clear rc1 rc2 rl e0 e1 e2 e3 g0 g2 g3 el
  clear hq ht HI8
  have rc1:=blk_cell HI9.out.rd 1
  have rc2:=blk_cell HI9.out.rd 2
  have rl:=blk_lt HI9.out.rd
  have e0:=blk_cell HI9.out.eb 0
  have e1:=blk_cell HI9.out.eb 1
  have e2:=blk_cell HI9.out.eb 2
  have e3:=blk_cell HI9.out.eb 3
  have g0:=blk_free HI9.out.eb 0
  have g2:=blk_free HI9.out.eb 2
  have g3:=blk_free HI9.out.eb 3
  have el:=blk_lt HI9.out.eb
  simp only [List.getElem?_toArray,List.getElem?_cons_zero,List.getElem?_cons_succ] at rc1 rc2 e0 e1 e2 e3
  obtain ⟨ax,px,mx,dx,cx,bx,hRE,hcx,hRR⟩:∃ (ax:Nat) (px:Nm) (mx:Int) (dx:Nm) (cx:Int) (bx:Nat),RE w q s ax px k mx dx cx bx w9 ∧ cx ≠ 0 ∧ R = .error (bx,cx):=⟨_,_,_,_,_,_,HI9.out,by decide,HD.out.symm⟩
  have HX:=Lib.hid hRE
  have HCX:=Lib.hid hcx
  have hc0:(cx == 0) = false:=beq_eq_false_iff_ne.2 hcx
  clear rc1 rc2 rl e0 e1 e2 e3 g0 g2 g3 el
  clear HI9 HD hRE hcx
  subst hRR
  have rc1:=blk_cell HX.out.rd 1
  have rc2:=blk_cell HX.out.rd 2
  have rl:=blk_lt HX.out.rd
  have e0:=blk_cell HX.out.eb 0
  have e1:=blk_cell HX.out.eb 1
  have e2:=blk_cell HX.out.eb 2
  have e3:=blk_cell HX.out.eb 3
  have g0:=blk_free HX.out.eb 0
  have g2:=blk_free HX.out.eb 2
  have g3:=blk_free HX.out.eb 3
  have el:=blk_lt HX.out.eb
  simp only [List.getElem?_toArray,List.getElem?_cons_zero,List.getElem?_cons_succ] at rc1 rc2 e0 e1 e2 e3
  go_wp2_with fail
  refine (rnum_dead q s ax cx bx _ _ HX.out.rd HCX.out hs2).mono ?_;rintro e wxc ⟨rfl,hq,ht⟩
  have HXc:=Lib.hid (HX.out.turn hq ht)
  clear rc1 rc2 rl e0 e1 e2 e3 g0 g2 g3 el
  clear hq ht HX
  have rc1:=blk_cell HXc.out.rd 1
  have rc2:=blk_cell HXc.out.rd 2
  have rl:=blk_lt HXc.out.rd
  have e0:=blk_cell HXc.out.eb 0
  have e1:=blk_cell HXc.out.eb 1
  have e2:=blk_cell HXc.out.eb 2
  have e3:=blk_cell HXc.out.eb 3
  have g0:=blk_free HXc.out.eb 0
  have g2:=blk_free HXc.out.eb 2
  have g3:=blk_free HXc.out.eb 3
  have el:=blk_lt HXc.out.eb
  simp only [List.getElem?_toArray,List.getElem?_cons_zero,List.getElem?_cons_succ] at rc1 rc2 e0 e1 e2 e3
  have HXd:=Lib.hid (HXc.out.mode (m':=0))
  go_upto_region 17 with fail
  change Code.wp _ _ _ _ (wxc.setCell ⟨w.heap.size + 1,2,none⟩ (.int .i64 0))
  generalize (wxc.setCell ⟨w.heap.size + 1,2,none⟩ (.int .i64 0)) = wxd at *
  clear rc1 rc2 rl e0 e1 e2 e3 g0 g2 g3 el
  clear HXc
  have rc1:=blk_cell HXd.out.rd 1
  have rc2:=blk_cell HXd.out.rd 2
  have rl:=blk_lt HXd.out.rd
  have e0:=blk_cell HXd.out.eb 0
  have e1:=blk_cell HXd.out.eb 1
  have e2:=blk_cell HXd.out.eb 2
  have e3:=blk_cell HXd.out.eb 3
  have g0:=blk_free HXd.out.eb 0
  have g2:=blk_free HXd.out.eb 2
  have g3:=blk_free HXd.out.eb 3
  have el:=blk_lt HXd.out.eb
  simp only [List.getElem?_toArray,List.getElem?_cons_zero,List.getElem?_cons_succ] at rc1 rc2 e0 e1 e2 e3
  go_wp2_with fail
  refine (rnum_dead q s ax cx bx _ _ HXd.out.rd HCX.out hs2).mono ?_;rintro e wxe ⟨rfl,hq,ht⟩
  have HXe:=Lib.hid (HXd.out.turn hq ht)
  clear rc1 rc2 rl e0 e1 e2 e3 g0 g2 g3 el
  clear hq ht HXd
  have rc1:=blk_cell HXe.out.rd 1
  have rc2:=blk_cell HXe.out.rd 2
  have rl:=blk_lt HXe.out.rd
  have e0:=blk_cell HXe.out.eb 0
  have e1:=blk_cell HXe.out.eb 1
  have e2:=blk_cell HXe.out.eb 2
  have e3:=blk_cell HXe.out.eb 3
  have g0:=blk_free HXe.out.eb 0
  have g2:=blk_free HXe.out.eb 2
  have g3:=blk_free HXe.out.eb 3
  have el:=blk_lt HXe.out.eb
  simp only [List.getElem?_toArray,List.getElem?_cons_zero,List.getElem?_cons_succ] at rc1 rc2 e0 e1 e2 e3
  go_wp2_with fail
  refine (rtake_dead q s ax cx bx _ _ HXe.out.rd HCX.out hs2).mono ?_;rintro e wxf ⟨rfl,hq,ht⟩
  have HXf:=Lib.hid (HXe.out.turn hq ht)
  clear rc1 rc2 rl e0 e1 e2 e3 g0 g2 g3 el
  clear hq ht HXe
  have rc1:=blk_cell HXf.out.rd 1
  have rc2:=blk_cell HXf.out.rd 2
  have rl:=blk_lt HXf.out.rd
  have e0:=blk_cell HXf.out.eb 0
  have e1:=blk_cell HXf.out.eb 1
  have e2:=blk_cell HXf.out.eb 2
  have e3:=blk_cell HXf.out.eb 3
  have g0:=blk_free HXf.out.eb 0
  have g2:=blk_free HXf.out.eb 2
  have g3:=blk_free HXf.out.eb 3
  have el:=blk_lt HXf.out.eb
  simp only [List.getElem?_toArray,List.getElem?_cons_zero,List.getElem?_cons_succ] at rc1 rc2 e0 e1 e2 e3
  have HXg:=Lib.hid (HXf.out.data (d' := []))
  go_upto_region 25 with fail
  change Code.wp _ _ _ _ (wxf.setCell ⟨w.heap.size + 1,3,none⟩ (sv []))
  generalize (wxf.setCell ⟨w.heap.size + 1,3,none⟩ (sv [])) = wxg at *
  clear rc1 rc2 rl e0 e1 e2 e3 g0 g2 g3 el
  clear HXf
  have rc1:=blk_cell HXg.out.rd 1
  have rc2:=blk_cell HXg.out.rd 2
  have rl:=blk_lt HXg.out.rd
  have e0:=blk_cell HXg.out.eb 0
  have e1:=blk_cell HXg.out.eb 1
  have e2:=blk_cell HXg.out.eb 2
  have e3:=blk_cell HXg.out.eb 3
  have g0:=blk_free HXg.out.eb 0
  have g2:=blk_free HXg.out.eb 2
  have g3:=blk_free HXg.out.eb 3
  have el:=blk_lt HXg.out.eb
  simp only [List.getElem?_toArray,List.getElem?_cons_zero,List.getElem?_cons_succ] at rc1 rc2 e0 e1 e2 e3
  clear rc1 rc2 rl e0 e1 e2 e3 g0 g2 g3 el
  have R0:=blk_cell HXg.out.rb 0
  have R1:=blk_cell HXg.out.rb 1
  have R2:=blk_cell HXg.out.rb 2
  have R3:=blk_cell HXg.out.rb 3
  have F0:=blk_free HXg.out.rb 0
  have F1:=blk_free HXg.out.rb 1
  have F2:=blk_free HXg.out.rb 2
  have F3:=blk_free HXg.out.rb 3
  have FL:=blk_lt HXg.out.rb
  simp only [List.getElem?_toArray,List.getElem?_cons_zero,List.getElem?_cons_succ] at R0 R1 R2 R3
  have H4:=Lib.hid (res4 HXg.out.rb (sv px) (.int .i64 k) (.int .i64 0) (sv []))
  have HT:Hid (Turned [q] w ((((wxg.setCell ⟨w.heap.size,0,none⟩ (sv px)).setCell ⟨w.heap.size,1,none⟩ (.int .i64 k)).setCell ⟨w.heap.size,2,none⟩ (.int .i64 0)).setCell ⟨w.heap.size,3,none⟩ (sv []))):=
   tur_set (tur_set (tur_set (tur_set HXg.out.tur (Nat.le_refl _) _) (Nat.le_refl _) _) (Nat.le_refl _) _) (Nat.le_refl _) _
  have HQ:=Lib.hid (show ((((wxg.setCell ⟨w.heap.size,0,none⟩ (sv px)).setCell ⟨w.heap.size,1,none⟩ (.int .i64 k)).setCell ⟨w.heap.size,2,none⟩ (.int .i64 0)).setCell ⟨w.heap.size,3,none⟩ (sv [])).heap[q]? = some (RbO s _ _ _) from by
   have:=HXg.out.ql
   rw [blk_other (by omega),blk_other (by omega),blk_other (by omega),blk_other (by omega)]
   exact HXg.out.rd)
  have rc1:=blk_cell HXg.out.rd 1
  have rc2:=blk_cell HXg.out.rd 2
  have rl:=blk_lt HXg.out.rd
  have e0:=blk_cell HXg.out.eb 0
  have e1:=blk_cell HXg.out.eb 1
  have e2:=blk_cell HXg.out.eb 2
  have e3:=blk_cell HXg.out.eb 3
  have g0:=blk_free HXg.out.eb 0
  have g2:=blk_free HXg.out.eb 2
  have g3:=blk_free HXg.out.eb 3
  have el:=blk_lt HXg.out.eb
  simp only [List.getElem?_toArray,List.getElem?_cons_zero,List.getElem?_cons_succ] at rc1 rc2 e0 e1 e2 e3
  go_wp2_with fail
  change bodyPost _ _ _ _ _ ((((wxg.setCell ⟨w.heap.size,0,none⟩ (sv px)).setCell ⟨w.heap.size,1,none⟩ (.int .i64 k)).setCell ⟨w.heap.size,2,none⟩ (.int .i64 0)).setCell ⟨w.heap.size,3,none⟩ (sv []))
  generalize ((((wxg.setCell ⟨w.heap.size,0,none⟩ (sv px)).setCell ⟨w.heap.size,1,none⟩ (.int .i64 k)).setCell ⟨w.heap.size,2,none⟩ (.int .i64 0)).setCell ⟨w.heap.size,3,none⟩ (sv [])) = wf at *
  have z0:=blk_cell H4.out 0
  have z1:=blk_cell H4.out 1
  have z2:=blk_cell H4.out 2
  have z3:=blk_cell H4.out 3
  simp only [List.getElem?_toArray,List.getElem?_cons_zero,List.getElem?_cons_succ] at z0 z1 z2 z3
  refine bodyPost_ret (v:=entV ⟨px,k,0,[]⟩) (by simp [results,Tryz.results87,go_sem,z0,z1,z2,z3]) rfl ?_
  exact ⟨_,_,rfl,HQ.out,HCX.out,HT.out⟩
 rw [hf] at HD
 simp only at HD
 have hgc:(applyF G ⟨p,k,0,[]⟩).isSome = true:=by rw [hg];rfl
 clear hf hg HSK
 rw [hgc]
 by_cases h5:s.length < a2 + 2
 ·rw [if_pos h5] at HD
  go_wp2_with fail
  refine (rnum_short q s a2 a 2 _ HI8.out.rd h3' hs2 h5).mono ?_;rintro e w9 ⟨rfl,hq,ht⟩
  have HI9:=Lib.hid (HI8.out.turn hq ht)
  clear rc1 rc2 rl e0 e1 e2 e3 g0 g2 g3 el
  clear hq ht HI8
  have rc1:=blk_cell HI9.out.rd 1
  have rc2:=blk_cell HI9.out.rd 2
  have rl:=blk_lt HI9.out.rd
  have e0:=blk_cell HI9.out.eb 0
  have e1:=blk_cell HI9.out.eb 1
  have e2:=blk_cell HI9.out.eb 2
  have e3:=blk_cell HI9.out.eb 3
  have g0:=blk_free HI9.out.eb 0
  have g2:=blk_free HI9.out.eb 2
  have g3:=blk_free HI9.out.eb 3
  have el:=blk_lt HI9.out.eb
  simp only [List.getElem?_toArray,List.getElem?_cons_zero,List.getElem?_cons_succ] at rc1 rc2 e0 e1 e2 e3
  have HI10:=Lib.hid (HI9.out.mode (m':=0))
  go_upto_region 17 with fail
  change Code.wp _ _ _ _ (w9.setCell ⟨w.heap.size + 1,2,none⟩ (.int .i64 0))
  generalize (w9.setCell ⟨w.heap.size + 1,2,none⟩ (.int .i64 0)) = w10 at *
  clear rc1 rc2 rl e0 e1 e2 e3 g0 g2 g3 el
  clear HI9
  have rc1:=blk_cell HI10.out.rd 1
  have rc2:=blk_cell HI10.out.rd 2
  have rl:=blk_lt HI10.out.rd
  have e0:=blk_cell HI10.out.eb 0
  have e1:=blk_cell HI10.out.eb 1
  have e2:=blk_cell HI10.out.eb 2
  have e3:=blk_cell HI10.out.eb 3
  have g0:=blk_free HI10.out.eb 0
  have g2:=blk_free HI10.out.eb 2
  have g3:=blk_free HI10.out.eb 3
  have el:=blk_lt HI10.out.eb
  simp only [List.getElem?_toArray,List.getElem?_cons_zero,List.getElem?_cons_succ] at rc1 rc2 e0 e1 e2 e3
  clear h5
  obtain ⟨ax,px,mx,dx,cx,bx,hRE,hcx,hRR⟩:∃ (ax:Nat) (px:Nm) (mx:Int) (dx:Nm) (cx:Int) (bx:Nat),RE w q s ax px k mx dx cx bx w10 ∧ cx ≠ 0 ∧ R = .error (bx,cx):=⟨_,_,_,_,_,_,HI10.out,by decide,HD.out.symm⟩
  have HX:=Lib.hid hRE
  have HCX:=Lib.hid hcx
  have hc0:(cx == 0) = false:=beq_eq_false_iff_ne.2 hcx
  clear rc1 rc2 rl e0 e1 e2 e3 g0 g2 g3 el
  clear HI10 HD hRE hcx
  subst hRR
  have rc1:=blk_cell HX.out.rd 1
  have rc2:=blk_cell HX.out.rd 2
  have rl:=blk_lt HX.out.rd
  have e0:=blk_cell HX.out.eb 0
  have e1:=blk_cell HX.out.eb 1
  have e2:=blk_cell HX.out.eb 2
  have e3:=blk_cell HX.out.eb 3
  have g0:=blk_free HX.out.eb 0
  have g2:=blk_free HX.out.eb 2
  have g3:=blk_free HX.out.eb 3
  have el:=blk_lt HX.out.eb
  simp only [List.getElem?_toArray,List.getElem?_cons_zero,List.getElem?_cons_succ] at rc1 rc2 e0 e1 e2 e3
  go_wp2_with fail
  refine (rnum_dead q s ax cx bx _ _ HX.out.rd HCX.out hs2).mono ?_;rintro e wxe ⟨rfl,hq,ht⟩
  have HXe:=Lib.hid (HX.out.turn hq ht)
  clear rc1 rc2 rl e0 e1 e2 e3 g0 g2 g3 el
  clear hq ht HX
  have rc1:=blk_cell HXe.out.rd 1
  have rc2:=blk_cell HXe.out.rd 2
  have rl:=blk_lt HXe.out.rd
  have e0:=blk_cell HXe.out.eb 0
  have e1:=blk_cell HXe.out.eb 1
  have e2:=blk_cell HXe.out.eb 2
  have e3:=blk_cell HXe.out.eb 3
  have g0:=blk_free HXe.out.eb 0
  have g2:=blk_free HXe.out.eb 2
  have g3:=blk_free HXe.out.eb 3
  have el:=blk_lt HXe.out.eb
  simp only [List.getElem?_toArray,List.getElem?_cons_zero,List.getElem?_cons_succ] at rc1 rc2 e0 e1 e2 e3
  go_wp2_with fail
  refine (rtake_dead q s ax cx bx _ _ HXe.out.rd HCX.out hs2).mono ?_;rintro e wxf ⟨rfl,hq,ht⟩
  have HXf:=Lib.hid (HXe.out.turn hq ht)
  clear rc1 rc2 rl e0 e1 e2 e3 g0 g2 g3 el
  clear hq ht HXe
  have rc1:=blk_cell HXf.out.rd 1
  have rc2:=blk_cell HXf.out.rd 2
  have rl:=blk_lt HXf.out.rd
  have e0:=blk_cell HXf.out.eb 0
  have e1:=blk_cell HXf.out.eb 1
  have e2:=blk_cell HXf.out.eb 2
  have e3:=blk_cell HXf.out.eb 3
  have g0:=blk_free HXf.out.eb 0
  have g2:=blk_free HXf.out.eb 2
  have g3:=blk_free HXf.out.eb 3
  have el:=blk_lt HXf.out.eb
  simp only [List.getElem?_toArray,List.getElem?_cons_zero,List.getElem?_cons_succ] at rc1 rc2 e0 e1 e2 e3
  have HXg:=Lib.hid (HXf.out.data (d' := []))
  go_upto_region 25 with fail
  change Code.wp _ _ _ _ (wxf.setCell ⟨w.heap.size + 1,3,none⟩ (sv []))
  generalize (wxf.setCell ⟨w.heap.size + 1,3,none⟩ (sv [])) = wxg at *
  clear rc1 rc2 rl e0 e1 e2 e3 g0 g2 g3 el
  clear HXf
  have rc1:=blk_cell HXg.out.rd 1
  have rc2:=blk_cell HXg.out.rd 2
  have rl:=blk_lt HXg.out.rd
  have e0:=blk_cell HXg.out.eb 0
  have e1:=blk_cell HXg.out.eb 1
  have e2:=blk_cell HXg.out.eb 2
  have e3:=blk_cell HXg.out.eb 3
  have g0:=blk_free HXg.out.eb 0
  have g2:=blk_free HXg.out.eb 2
  have g3:=blk_free HXg.out.eb 3
  have el:=blk_lt HXg.out.eb
  simp only [List.getElem?_toArray,List.getElem?_cons_zero,List.getElem?_cons_succ] at rc1 rc2 e0 e1 e2 e3
  clear rc1 rc2 rl e0 e1 e2 e3 g0 g2 g3 el
  have R0:=blk_cell HXg.out.rb 0
  have R1:=blk_cell HXg.out.rb 1
  have R2:=blk_cell HXg.out.rb 2
  have R3:=blk_cell HXg.out.rb 3
  have F0:=blk_free HXg.out.rb 0
  have F1:=blk_free HXg.out.rb 1
  have F2:=blk_free HXg.out.rb 2
  have F3:=blk_free HXg.out.rb 3
  have FL:=blk_lt HXg.out.rb
  simp only [List.getElem?_toArray,List.getElem?_cons_zero,List.getElem?_cons_succ] at R0 R1 R2 R3
  have H4:=Lib.hid (res4 HXg.out.rb (sv px) (.int .i64 k) (.int .i64 mx) (sv []))
  have HT:Hid (Turned [q] w ((((wxg.setCell ⟨w.heap.size,0,none⟩ (sv px)).setCell ⟨w.heap.size,1,none⟩ (.int .i64 k)).setCell ⟨w.heap.size,2,none⟩ (.int .i64 mx)).setCell ⟨w.heap.size,3,none⟩ (sv []))):=
   tur_set (tur_set (tur_set (tur_set HXg.out.tur (Nat.le_refl _) _) (Nat.le_refl _) _) (Nat.le_refl _) _) (Nat.le_refl _) _
  have HQ:=Lib.hid (show ((((wxg.setCell ⟨w.heap.size,0,none⟩ (sv px)).setCell ⟨w.heap.size,1,none⟩ (.int .i64 k)).setCell ⟨w.heap.size,2,none⟩ (.int .i64 mx)).setCell ⟨w.heap.size,3,none⟩ (sv [])).heap[q]? = some (RbO s _ _ _) from by
   have:=HXg.out.ql
   rw [blk_other (by omega),blk_other (by omega),blk_other (by omega),blk_other (by omega)]
   exact HXg.out.rd)
  have rc1:=blk_cell HXg.out.rd 1
  have rc2:=blk_cell HXg.out.rd 2
  have rl:=blk_lt HXg.out.rd
  have e0:=blk_cell HXg.out.eb 0
  have e1:=blk_cell HXg.out.eb 1
  have e2:=blk_cell HXg.out.eb 2
  have e3:=blk_cell HXg.out.eb 3
  have g0:=blk_free HXg.out.eb 0
  have g2:=blk_free HXg.out.eb 2
  have g3:=blk_free HXg.out.eb 3
  have el:=blk_lt HXg.out.eb
  simp only [List.getElem?_toArray,List.getElem?_cons_zero,List.getElem?_cons_succ] at rc1 rc2 e0 e1 e2 e3
  go_wp2_with fail
  change bodyPost _ _ _ _ _ ((((wxg.setCell ⟨w.heap.size,0,none⟩ (sv px)).setCell ⟨w.heap.size,1,none⟩ (.int .i64 k)).setCell ⟨w.heap.size,2,none⟩ (.int .i64 mx)).setCell ⟨w.heap.size,3,none⟩ (sv []))
  generalize ((((wxg.setCell ⟨w.heap.size,0,none⟩ (sv px)).setCell ⟨w.heap.size,1,none⟩ (.int .i64 k)).setCell ⟨w.heap.size,2,none⟩ (.int .i64 mx)).setCell ⟨w.heap.size,3,none⟩ (sv [])) = wf at *
  have z0:=blk_cell H4.out 0
  have z1:=blk_cell H4.out 1
  have z2:=blk_cell H4.out 2
  have z3:=blk_cell H4.out 3
  simp only [List.getElem?_toArray,List.getElem?_cons_zero,List.getElem?_cons_succ] at z0 z1 z2 z3
  refine bodyPost_ret (v:=entV ⟨px,k,mx,[]⟩) (by simp [results,Tryz.results87,go_sem,z0,z1,z2,z3]) rfl ?_
  exact ⟨_,_,rfl,HQ.out,HCX.out,HT.out⟩
 rw [if_neg h5] at HD
 have h5':a2 + 2 ≤ s.length:=by omega
 have HN:=Lib.hid (rnum_ok q s a2 a 2 _ HI8.out.rd hs2 (.inr rfl) h5')
 rw [show numV s a2 2 = num2 s a2 from rfl] at HN
 generalize num2 s a2 = m at *
 clear h5
 go_wp2_with fail
 refine (HN.out).mono ?_;rintro e w9 ⟨rfl,hq,ht⟩
 have HI9:=Lib.hid (HI8.out.turn hq ht)
 clear rc1 rc2 rl e0 e1 e2 e3 g0 g2 g3 el
 clear hq ht HI8
 have rc1:=blk_cell HI9.out.rd 1
 have rc2:=blk_cell HI9.out.rd 2
 have rl:=blk_lt HI9.out.rd
 have e0:=blk_cell HI9.out.eb 0
 have e1:=blk_cell HI9.out.eb 1
 have e2:=blk_cell HI9.out.eb 2
 have e3:=blk_cell HI9.out.eb 3
 have g0:=blk_free HI9.out.eb 0
 have g2:=blk_free HI9.out.eb 2
 have g3:=blk_free HI9.out.eb 3
 have el:=blk_lt HI9.out.eb
 simp only [List.getElem?_toArray,List.getElem?_cons_zero,List.getElem?_cons_succ] at rc1 rc2 e0 e1 e2 e3
 clear HN
 have HI10:=Lib.hid (HI9.out.mode (m':=(m:Int)))
 go_upto_region 17 with fail
 change Code.wp _ _ _ _ (w9.setCell ⟨w.heap.size + 1,2,none⟩ (.int .i64 (m:Int)))
 generalize (w9.setCell ⟨w.heap.size + 1,2,none⟩ (.int .i64 (m:Int))) = W10 at *
 clear rc1 rc2 rl e0 e1 e2 e3 g0 g2 g3 el
 clear HI9
 have rc1:=blk_cell HI10.out.rd 1
 have rc2:=blk_cell HI10.out.rd 2
 have rl:=blk_lt HI10.out.rd
 have e0:=blk_cell HI10.out.eb 0
 have e1:=blk_cell HI10.out.eb 1
 have e2:=blk_cell HI10.out.eb 2
 have e3:=blk_cell HI10.out.eb 3
 have g0:=blk_free HI10.out.eb 0
 have g2:=blk_free HI10.out.eb 2
 have g3:=blk_free HI10.out.eb 3
 have el:=blk_lt HI10.out.eb
 simp only [List.getElem?_toArray,List.getElem?_cons_zero,List.getElem?_cons_succ] at rc1 rc2 e0 e1 e2 e3
 have HMO:=Lib.hid (rmode_any ⟨p,k,m,[]⟩ W10)
 go_wp2_with fail
 refine HMO.out.mono ?_;rintro e w11 ⟨rfl,hb⟩
 have HI11:=Lib.hid (HI10.out.below hb)
 clear rc1 rc2 rl e0 e1 e2 e3 g0 g2 g3 el
 clear hb HMO HI10
 have rc1:=blk_cell HI11.out.rd 1
 have rc2:=blk_cell HI11.out.rd 2
 have rl:=blk_lt HI11.out.rd
 have e0:=blk_cell HI11.out.eb 0
 have e1:=blk_cell HI11.out.eb 1
 have e2:=blk_cell HI11.out.eb 2
 have e3:=blk_cell HI11.out.eb 3
 have g0:=blk_free HI11.out.eb 0
 have g2:=blk_free HI11.out.eb 2
 have g3:=blk_free HI11.out.eb 3
 have el:=blk_lt HI11.out.eb
 simp only [List.getElem?_toArray,List.getElem?_cons_zero,List.getElem?_cons_succ] at rc1 rc2 e0 e1 e2 e3
 simp only
 cases h6:modeB k m with
 | false =>
  rw [if_pos h6] at HD
  clear h6
  go_wp2_with fail
  refine (fault_live q s (a2 + 2) a 1306 a2 _ HI11.out.rd).mono ?_;rintro e w12 ⟨rfl,hq,ht⟩
  have HI12:=Lib.hid (HI11.out.turn hq ht)
  clear rc1 rc2 rl e0 e1 e2 e3 g0 g2 g3 el
  clear hq ht HI11
  have rc1:=blk_cell HI12.out.rd 1
  have rc2:=blk_cell HI12.out.rd 2
  have rl:=blk_lt HI12.out.rd
  have e0:=blk_cell HI12.out.eb 0
  have e1:=blk_cell HI12.out.eb 1
  have e2:=blk_cell HI12.out.eb 2
  have e3:=blk_cell HI12.out.eb 3
  have g0:=blk_free HI12.out.eb 0
  have g2:=blk_free HI12.out.eb 2
  have g3:=blk_free HI12.out.eb 3
  have el:=blk_lt HI12.out.eb
  simp only [List.getElem?_toArray,List.getElem?_cons_zero,List.getElem?_cons_succ] at rc1 rc2 e0 e1 e2 e3
  obtain ⟨ax,px,mx,dx,cx,bx,hRE,hcx,hRR⟩:∃ (ax:Nat) (px:Nm) (mx:Int) (dx:Nm) (cx:Int) (bx:Nat),RE w q s ax px k mx dx cx bx w12 ∧ cx ≠ 0 ∧ R = .error (bx,cx):=⟨_,_,_,_,_,_,HI12.out,by decide,HD.out.symm⟩
  have HX:=Lib.hid hRE
  have HCX:=Lib.hid hcx
  have hc0:(cx == 0) = false:=beq_eq_false_iff_ne.2 hcx
  clear rc1 rc2 rl e0 e1 e2 e3 g0 g2 g3 el
  clear HI12 HD hRE hcx
  subst hRR
  have rc1:=blk_cell HX.out.rd 1
  have rc2:=blk_cell HX.out.rd 2
  have rl:=blk_lt HX.out.rd
  have e0:=blk_cell HX.out.eb 0
  have e1:=blk_cell HX.out.eb 1
  have e2:=blk_cell HX.out.eb 2
  have e3:=blk_cell HX.out.eb 3
  have g0:=blk_free HX.out.eb 0
  have g2:=blk_free HX.out.eb 2
  have g3:=blk_free HX.out.eb 3
  have el:=blk_lt HX.out.eb
  simp only [List.getElem?_toArray,List.getElem?_cons_zero,List.getElem?_cons_succ] at rc1 rc2 e0 e1 e2 e3
  go_wp2_with fail
  refine (rnum_dead q s ax cx bx _ _ HX.out.rd HCX.out hs2).mono ?_;rintro e wxe ⟨rfl,hq,ht⟩
  have HXe:=Lib.hid (HX.out.turn hq ht)
  clear rc1 rc2 rl e0 e1 e2 e3 g0 g2 g3 el
  clear hq ht HX
  have rc1:=blk_cell HXe.out.rd 1
  have rc2:=blk_cell HXe.out.rd 2
  have rl:=blk_lt HXe.out.rd
  have e0:=blk_cell HXe.out.eb 0
  have e1:=blk_cell HXe.out.eb 1
  have e2:=blk_cell HXe.out.eb 2
  have e3:=blk_cell HXe.out.eb 3
  have g0:=blk_free HXe.out.eb 0
  have g2:=blk_free HXe.out.eb 2
  have g3:=blk_free HXe.out.eb 3
  have el:=blk_lt HXe.out.eb
  simp only [List.getElem?_toArray,List.getElem?_cons_zero,List.getElem?_cons_succ] at rc1 rc2 e0 e1 e2 e3
  go_wp2_with fail
  refine (rtake_dead q s ax cx bx _ _ HXe.out.rd HCX.out hs2).mono ?_;rintro e wxf ⟨rfl,hq,ht⟩
  have HXf:=Lib.hid (HXe.out.turn hq ht)
  clear rc1 rc2 rl e0 e1 e2 e3 g0 g2 g3 el
  clear hq ht HXe
  have rc1:=blk_cell HXf.out.rd 1
  have rc2:=blk_cell HXf.out.rd 2
  have rl:=blk_lt HXf.out.rd
  have e0:=blk_cell HXf.out.eb 0
  have e1:=blk_cell HXf.out.eb 1
  have e2:=blk_cell HXf.out.eb 2
  have e3:=blk_cell HXf.out.eb 3
  have g0:=blk_free HXf.out.eb 0
  have g2:=blk_free HXf.out.eb 2
  have g3:=blk_free HXf.out.eb 3
  have el:=blk_lt HXf.out.eb
  simp only [List.getElem?_toArray,List.getElem?_cons_zero,List.getElem?_cons_succ] at rc1 rc2 e0 e1 e2 e3
  have HXg:=Lib.hid (HXf.out.data (d' := []))
  go_upto_region 25 with fail
  change Code.wp _ _ _ _ (wxf.setCell ⟨w.heap.size + 1,3,none⟩ (sv []))
  generalize (wxf.setCell ⟨w.heap.size + 1,3,none⟩ (sv [])) = wxg at *
  clear rc1 rc2 rl e0 e1 e2 e3 g0 g2 g3 el
  clear HXf
  have rc1:=blk_cell HXg.out.rd 1
  have rc2:=blk_cell HXg.out.rd 2
  have rl:=blk_lt HXg.out.rd
  have e0:=blk_cell HXg.out.eb 0
  have e1:=blk_cell HXg.out.eb 1
  have e2:=blk_cell HXg.out.eb 2
  have e3:=blk_cell HXg.out.eb 3
  have g0:=blk_free HXg.out.eb 0
  have g2:=blk_free HXg.out.eb 2
  have g3:=blk_free HXg.out.eb 3
  have el:=blk_lt HXg.out.eb
  simp only [List.getElem?_toArray,List.getElem?_cons_zero,List.getElem?_cons_succ] at rc1 rc2 e0 e1 e2 e3
  clear rc1 rc2 rl e0 e1 e2 e3 g0 g2 g3 el
  have R0:=blk_cell HXg.out.rb 0
  have R1:=blk_cell HXg.out.rb 1
  have R2:=blk_cell HXg.out.rb 2
  have R3:=blk_cell HXg.out.rb 3
  have F0:=blk_free HXg.out.rb 0
  have F1:=blk_free HXg.out.rb 1
  have F2:=blk_free HXg.out.rb 2
  have F3:=blk_free HXg.out.rb 3
  have FL:=blk_lt HXg.out.rb
  simp only [List.getElem?_toArray,List.getElem?_cons_zero,List.getElem?_cons_succ] at R0 R1 R2 R3
  have H4:=Lib.hid (res4 HXg.out.rb (sv px) (.int .i64 k) (.int .i64 mx) (sv []))
  have HT:Hid (Turned [q] w ((((wxg.setCell ⟨w.heap.size,0,none⟩ (sv px)).setCell ⟨w.heap.size,1,none⟩ (.int .i64 k)).setCell ⟨w.heap.size,2,none⟩ (.int .i64 mx)).setCell ⟨w.heap.size,3,none⟩ (sv []))):=
   tur_set (tur_set (tur_set (tur_set HXg.out.tur (Nat.le_refl _) _) (Nat.le_refl _) _) (Nat.le_refl _) _) (Nat.le_refl _) _
  have HQ:=Lib.hid (show ((((wxg.setCell ⟨w.heap.size,0,none⟩ (sv px)).setCell ⟨w.heap.size,1,none⟩ (.int .i64 k)).setCell ⟨w.heap.size,2,none⟩ (.int .i64 mx)).setCell ⟨w.heap.size,3,none⟩ (sv [])).heap[q]? = some (RbO s _ _ _) from by
   have:=HXg.out.ql
   rw [blk_other (by omega),blk_other (by omega),blk_other (by omega),blk_other (by omega)]
   exact HXg.out.rd)
  have rc1:=blk_cell HXg.out.rd 1
  have rc2:=blk_cell HXg.out.rd 2
  have rl:=blk_lt HXg.out.rd
  have e0:=blk_cell HXg.out.eb 0
  have e1:=blk_cell HXg.out.eb 1
  have e2:=blk_cell HXg.out.eb 2
  have e3:=blk_cell HXg.out.eb 3
  have g0:=blk_free HXg.out.eb 0
  have g2:=blk_free HXg.out.eb 2
  have g3:=blk_free HXg.out.eb 3
  have el:=blk_lt HXg.out.eb
  simp only [List.getElem?_toArray,List.getElem?_cons_zero,List.getElem?_cons_succ] at rc1 rc2 e0 e1 e2 e3
  go_wp2_with fail
  change bodyPost _ _ _ _ _ ((((wxg.setCell ⟨w.heap.size,0,none⟩ (sv px)).setCell ⟨w.heap.size,1,none⟩ (.int .i64 k)).setCell ⟨w.heap.size,2,none⟩ (.int .i64 mx)).setCell ⟨w.heap.size,3,none⟩ (sv []))
  generalize ((((wxg.setCell ⟨w.heap.size,0,none⟩ (sv px)).setCell ⟨w.heap.size,1,none⟩ (.int .i64 k)).setCell ⟨w.heap.size,2,none⟩ (.int .i64 mx)).setCell ⟨w.heap.size,3,none⟩ (sv [])) = wf at *
  have z0:=blk_cell H4.out 0
  have z1:=blk_cell H4.out 1
  have z2:=blk_cell H4.out 2
  have z3:=blk_cell H4.out 3
  simp only [List.getElem?_toArray,List.getElem?_cons_zero,List.getElem?_cons_succ] at z0 z1 z2 z3
  refine bodyPost_ret (v:=entV ⟨px,k,mx,[]⟩) (by simp [results,Tryz.results87,go_sem,z0,z1,z2,z3]) rfl ?_
  exact ⟨_,_,rfl,HQ.out,HCX.out,HT.out⟩
 | true =>
 rw [if_neg (by rw [h6];decide)] at HD
 clear h6
 by_cases h7:s.length < a2 + 4
 ·rw [if_pos h7] at HD
  go_wp2_with fail
  refine (rnum_short q s (a2 + 2) a 2 _ HI11.out.rd h5' hs2 (by omega)).mono ?_;rintro e w12 ⟨rfl,hq,ht⟩
  have HI12:=Lib.hid (HI11.out.turn hq ht)
  clear rc1 rc2 rl e0 e1 e2 e3 g0 g2 g3 el
  clear hq ht HI11
  have rc1:=blk_cell HI12.out.rd 1
  have rc2:=blk_cell HI12.out.rd 2
  have rl:=blk_lt HI12.out.rd
  have e0:=blk_cell HI12.out.eb 0
  have e1:=blk_cell HI12.out.eb 1
  have e2:=blk_cell HI12.out.eb 2
  have e3:=blk_cell HI12.out.eb 3
  have g0:=blk_free HI12.out.eb 0
  have g2:=blk_free HI12.out.eb 2
  have g3:=blk_free HI12.out.eb 3
  have el:=blk_lt HI12.out.eb
  simp only [List.getElem?_toArray,List.getElem?_cons_zero,List.getElem?_cons_succ] at rc1 rc2 e0 e1 e2 e3
  clear h7
  obtain ⟨ax,px,mx,dx,cx,bx,hRE,hcx,hRR⟩:∃ (ax:Nat) (px:Nm) (mx:Int) (dx:Nm) (cx:Int) (bx:Nat),RE w q s ax px k mx dx cx bx w12 ∧ cx ≠ 0 ∧ R = .error (bx,cx):=⟨_,_,_,_,_,_,HI12.out,by decide,HD.out.symm⟩
  have HX:=Lib.hid hRE
  have HCX:=Lib.hid hcx
  have hc0:(cx == 0) = false:=beq_eq_false_iff_ne.2 hcx
  clear rc1 rc2 rl e0 e1 e2 e3 g0 g2 g3 el
  clear HI12 HD hRE hcx
  subst hRR
  have rc1:=blk_cell HX.out.rd 1
  have rc2:=blk_cell HX.out.rd 2
  have rl:=blk_lt HX.out.rd
  have e0:=blk_cell HX.out.eb 0
  have e1:=blk_cell HX.out.eb 1
  have e2:=blk_cell HX.out.eb 2
  have e3:=blk_cell HX.out.eb 3
  have g0:=blk_free HX.out.eb 0
  have g2:=blk_free HX.out.eb 2
  have g3:=blk_free HX.out.eb 3
  have el:=blk_lt HX.out.eb
  simp only [List.getElem?_toArray,List.getElem?_cons_zero,List.getElem?_cons_succ] at rc1 rc2 e0 e1 e2 e3
  go_wp2_with fail
  refine (rtake_dead q s ax cx bx _ _ HX.out.rd HCX.out hs2).mono ?_;rintro e wxf ⟨rfl,hq,ht⟩
  have HXf:=Lib.hid (HX.out.turn hq ht)
  clear rc1 rc2 rl e0 e1 e2 e3 g0 g2 g3 el
  clear hq ht HX
  have rc1:=blk_cell HXf.out.rd 1
  have rc2:=blk_cell HXf.out.rd 2
  have rl:=blk_lt HXf.out.rd
  have e0:=blk_cell HXf.out.eb 0
  have e1:=blk_cell HXf.out.eb 1
  have e2:=blk_cell HXf.out.eb 2
  have e3:=blk_cell HXf.out.eb 3
  have g0:=blk_free HXf.out.eb 0
  have g2:=blk_free HXf.out.eb 2
  have g3:=blk_free HXf.out.eb 3
  have el:=blk_lt HXf.out.eb
  simp only [List.getElem?_toArray,List.getElem?_cons_zero,List.getElem?_cons_succ] at rc1 rc2 e0 e1 e2 e3
  have HXg:=Lib.hid (HXf.out.data (d' := []))
  go_upto_region 25 with fail
  change Code.wp _ _ _ _ (wxf.setCell ⟨w.heap.size + 1,3,none⟩ (sv []))
  generalize (wxf.setCell ⟨w.heap.size + 1,3,none⟩ (sv [])) = wxg at *
  clear rc1 rc2 rl e0 e1 e2 e3 g0 g2 g3 el
  clear HXf
  have rc1:=blk_cell HXg.out.rd 1
  have rc2:=blk_cell HXg.out.rd 2
  have rl:=blk_lt HXg.out.rd
  have e0:=blk_cell HXg.out.eb 0
  have e1:=blk_cell HXg.out.eb 1
  have e2:=blk_cell HXg.out.eb 2
  have e3:=blk_cell HXg.out.eb 3
  have g0:=blk_free HXg.out.eb 0
  have g2:=blk_free HXg.out.eb 2
  have g3:=blk_free HXg.out.eb 3
  have el:=blk_lt HXg.out.eb
  simp only [List.getElem?_toArray,List.getElem?_cons_zero,List.getElem?_cons_succ] at rc1 rc2 e0 e1 e2 e3
  clear rc1 rc2 rl e0 e1 e2 e3 g0 g2 g3 el
  have R0:=blk_cell HXg.out.rb 0
  have R1:=blk_cell HXg.out.rb 1
  have R2:=blk_cell HXg.out.rb 2
  have R3:=blk_cell HXg.out.rb 3
  have F0:=blk_free HXg.out.rb 0
  have F1:=blk_free HXg.out.rb 1
  have F2:=blk_free HXg.out.rb 2
  have F3:=blk_free HXg.out.rb 3
  have FL:=blk_lt HXg.out.rb
  simp only [List.getElem?_toArray,List.getElem?_cons_zero,List.getElem?_cons_succ] at R0 R1 R2 R3
  have H4:=Lib.hid (res4 HXg.out.rb (sv px) (.int .i64 k) (.int .i64 mx) (sv []))
  have HT:Hid (Turned [q] w ((((wxg.setCell ⟨w.heap.size,0,none⟩ (sv px)).setCell ⟨w.heap.size,1,none⟩ (.int .i64 k)).setCell ⟨w.heap.size,2,none⟩ (.int .i64 mx)).setCell ⟨w.heap.size,3,none⟩ (sv []))):=
   tur_set (tur_set (tur_set (tur_set HXg.out.tur (Nat.le_refl _) _) (Nat.le_refl _) _) (Nat.le_refl _) _) (Nat.le_refl _) _
  have HQ:=Lib.hid (show ((((wxg.setCell ⟨w.heap.size,0,none⟩ (sv px)).setCell ⟨w.heap.size,1,none⟩ (.int .i64 k)).setCell ⟨w.heap.size,2,none⟩ (.int .i64 mx)).setCell ⟨w.heap.size,3,none⟩ (sv [])).heap[q]? = some (RbO s _ _ _) from by
   have:=HXg.out.ql
   rw [blk_other (by omega),blk_other (by omega),blk_other (by omega),blk_other (by omega)]
   exact HXg.out.rd)
  have rc1:=blk_cell HXg.out.rd 1
  have rc2:=blk_cell HXg.out.rd 2
  have rl:=blk_lt HXg.out.rd
  have e0:=blk_cell HXg.out.eb 0
  have e1:=blk_cell HXg.out.eb 1
  have e2:=blk_cell HXg.out.eb 2
  have e3:=blk_cell HXg.out.eb 3
  have g0:=blk_free HXg.out.eb 0
  have g2:=blk_free HXg.out.eb 2
  have g3:=blk_free HXg.out.eb 3
  have el:=blk_lt HXg.out.eb
  simp only [List.getElem?_toArray,List.getElem?_cons_zero,List.getElem?_cons_succ] at rc1 rc2 e0 e1 e2 e3
  go_wp2_with fail
  change bodyPost _ _ _ _ _ ((((wxg.setCell ⟨w.heap.size,0,none⟩ (sv px)).setCell ⟨w.heap.size,1,none⟩ (.int .i64 k)).setCell ⟨w.heap.size,2,none⟩ (.int .i64 mx)).setCell ⟨w.heap.size,3,none⟩ (sv []))
  generalize ((((wxg.setCell ⟨w.heap.size,0,none⟩ (sv px)).setCell ⟨w.heap.size,1,none⟩ (.int .i64 k)).setCell ⟨w.heap.size,2,none⟩ (.int .i64 mx)).setCell ⟨w.heap.size,3,none⟩ (sv [])) = wf at *
  have z0:=blk_cell H4.out 0
  have z1:=blk_cell H4.out 1
  have z2:=blk_cell H4.out 2
  have z3:=blk_cell H4.out 3
  simp only [List.getElem?_toArray,List.getElem?_cons_zero,List.getElem?_cons_succ] at z0 z1 z2 z3
  refine bodyPost_ret (v:=entV ⟨px,k,mx,[]⟩) (by simp [results,Tryz.results87,go_sem,z0,z1,z2,z3]) rfl ?_
  exact ⟨_,_,rfl,HQ.out,HCX.out,HT.out⟩
 rw [if_neg h7] at HD
 have h7':a2 + 2 + 2 ≤ s.length:=by omega
 have HN:=Lib.hid (rnum_ok q s (a2 + 2) a 2 _ HI11.out.rd hs2 (.inr rfl) h7')
 rw [show numV s (a2 + 2) 2 = num2 s (a2 + 2) from rfl] at HN
 have hql2:num2 s (a2 + 2) < 65536:=numV_lt s (a2 + 2) 2
 generalize num2 s (a2 + 2) = dl at *
 clear h7
 go_wp2_with fail
 refine (HN.out).mono ?_;rintro e w12 ⟨rfl,hq,ht⟩
 have HI12:=Lib.hid (HI11.out.turn hq ht)
 clear rc1 rc2 rl e0 e1 e2 e3 g0 g2 g3 el
 clear hq ht HI11
 have rc1:=blk_cell HI12.out.rd 1
 have rc2:=blk_cell HI12.out.rd 2
 have rl:=blk_lt HI12.out.rd
 have e0:=blk_cell HI12.out.eb 0
 have e1:=blk_cell HI12.out.eb 1
 have e2:=blk_cell HI12.out.eb 2
 have e3:=blk_cell HI12.out.eb 3
 have g0:=blk_free HI12.out.eb 0
 have g2:=blk_free HI12.out.eb 2
 have g3:=blk_free HI12.out.eb 3
 have el:=blk_lt HI12.out.eb
 simp only [List.getElem?_toArray,List.getElem?_cons_zero,List.getElem?_cons_succ] at rc1 rc2 e0 e1 e2 e3
 clear HN
 have HSZ:=Lib.hid (fun W=>rlength_any k dl W)
 go_wp2_with fail
 refine (HSZ.out _).mono ?_;rintro e w' ⟨rfl,rfl⟩
 clear HSZ
 cases h8:lenB k dl with
 | false =>
  rw [if_pos h8] at HD
  clear h8
  go_wp2_with fail
  refine (fault_live q s (a2 + 2 + 2) a 1307 ((a2 + 2:Nat):Int) _ HI12.out.rd).mono ?_;rintro e w13 ⟨rfl,hq,ht⟩
  have HI13:=Lib.hid (HI12.out.turn hq ht)
  clear rc1 rc2 rl e0 e1 e2 e3 g0 g2 g3 el
  clear hq ht HI12
  have rc1:=blk_cell HI13.out.rd 1
  have rc2:=blk_cell HI13.out.rd 2
  have rl:=blk_lt HI13.out.rd
  have e0:=blk_cell HI13.out.eb 0
  have e1:=blk_cell HI13.out.eb 1
  have e2:=blk_cell HI13.out.eb 2
  have e3:=blk_cell HI13.out.eb 3
  have g0:=blk_free HI13.out.eb 0
  have g2:=blk_free HI13.out.eb 2
  have g3:=blk_free HI13.out.eb 3
  have el:=blk_lt HI13.out.eb
  simp only [List.getElem?_toArray,List.getElem?_cons_zero,List.getElem?_cons_succ] at rc1 rc2 e0 e1 e2 e3
  obtain ⟨ax,px,mx,dx,cx,bx,hRE,hcx,hRR⟩:∃ (ax:Nat) (px:Nm) (mx:Int) (dx:Nm) (cx:Int) (bx:Nat),RE w q s ax px k mx dx cx bx w13 ∧ cx ≠ 0 ∧ R = .error (bx,cx):=⟨_,_,_,_,_,_,HI13.out,by decide,HD.out.symm⟩
  have HX:=Lib.hid hRE
  have HCX:=Lib.hid hcx
  have hc0:(cx == 0) = false:=beq_eq_false_iff_ne.2 hcx
  clear rc1 rc2 rl e0 e1 e2 e3 g0 g2 g3 el
  clear HI13 HD hRE hcx
  subst hRR
  have rc1:=blk_cell HX.out.rd 1
  have rc2:=blk_cell HX.out.rd 2
  have rl:=blk_lt HX.out.rd
  have e0:=blk_cell HX.out.eb 0
  have e1:=blk_cell HX.out.eb 1
  have e2:=blk_cell HX.out.eb 2
  have e3:=blk_cell HX.out.eb 3
  have g0:=blk_free HX.out.eb 0
  have g2:=blk_free HX.out.eb 2
  have g3:=blk_free HX.out.eb 3
  have el:=blk_lt HX.out.eb
  simp only [List.getElem?_toArray,List.getElem?_cons_zero,List.getElem?_cons_succ] at rc1 rc2 e0 e1 e2 e3
  go_wp2_with fail
  refine (rtake_dead q s ax cx bx _ _ HX.out.rd HCX.out hs2).mono ?_;rintro e wxf ⟨rfl,hq,ht⟩
  have HXf:=Lib.hid (HX.out.turn hq ht)
  clear rc1 rc2 rl e0 e1 e2 e3 g0 g2 g3 el
  clear hq ht HX
  have rc1:=blk_cell HXf.out.rd 1
  have rc2:=blk_cell HXf.out.rd 2
  have rl:=blk_lt HXf.out.rd
  have e0:=blk_cell HXf.out.eb 0
  have e1:=blk_cell HXf.out.eb 1
  have e2:=blk_cell HXf.out.eb 2
  have e3:=blk_cell HXf.out.eb 3
  have g0:=blk_free HXf.out.eb 0
  have g2:=blk_free HXf.out.eb 2
  have g3:=blk_free HXf.out.eb 3
  have el:=blk_lt HXf.out.eb
  simp only [List.getElem?_toArray,List.getElem?_cons_zero,List.getElem?_cons_succ] at rc1 rc2 e0 e1 e2 e3
  have HXg:=Lib.hid (HXf.out.data (d' := []))
  go_upto_region 25 with fail
  change Code.wp _ _ _ _ (wxf.setCell ⟨w.heap.size + 1,3,none⟩ (sv []))
  generalize (wxf.setCell ⟨w.heap.size + 1,3,none⟩ (sv [])) = wxg at *
  clear rc1 rc2 rl e0 e1 e2 e3 g0 g2 g3 el
  clear HXf
  have rc1:=blk_cell HXg.out.rd 1
  have rc2:=blk_cell HXg.out.rd 2
  have rl:=blk_lt HXg.out.rd
  have e0:=blk_cell HXg.out.eb 0
  have e1:=blk_cell HXg.out.eb 1
  have e2:=blk_cell HXg.out.eb 2
  have e3:=blk_cell HXg.out.eb 3
  have g0:=blk_free HXg.out.eb 0
  have g2:=blk_free HXg.out.eb 2
  have g3:=blk_free HXg.out.eb 3
  have el:=blk_lt HXg.out.eb
  simp only [List.getElem?_toArray,List.getElem?_cons_zero,List.getElem?_cons_succ] at rc1 rc2 e0 e1 e2 e3
  clear rc1 rc2 rl e0 e1 e2 e3 g0 g2 g3 el
  have R0:=blk_cell HXg.out.rb 0
  have R1:=blk_cell HXg.out.rb 1
  have R2:=blk_cell HXg.out.rb 2
  have R3:=blk_cell HXg.out.rb 3
  have F0:=blk_free HXg.out.rb 0
  have F1:=blk_free HXg.out.rb 1
  have F2:=blk_free HXg.out.rb 2
  have F3:=blk_free HXg.out.rb 3
  have FL:=blk_lt HXg.out.rb
  simp only [List.getElem?_toArray,List.getElem?_cons_zero,List.getElem?_cons_succ] at R0 R1 R2 R3
  have H4:=Lib.hid (res4 HXg.out.rb (sv px) (.int .i64 k) (.int .i64 mx) (sv []))
  have HT:Hid (Turned [q] w ((((wxg.setCell ⟨w.heap.size,0,none⟩ (sv px)).setCell ⟨w.heap.size,1,none⟩ (.int .i64 k)).setCell ⟨w.heap.size,2,none⟩ (.int .i64 mx)).setCell ⟨w.heap.size,3,none⟩ (sv []))):=
   tur_set (tur_set (tur_set (tur_set HXg.out.tur (Nat.le_refl _) _) (Nat.le_refl _) _) (Nat.le_refl _) _) (Nat.le_refl _) _
  have HQ:=Lib.hid (show ((((wxg.setCell ⟨w.heap.size,0,none⟩ (sv px)).setCell ⟨w.heap.size,1,none⟩ (.int .i64 k)).setCell ⟨w.heap.size,2,none⟩ (.int .i64 mx)).setCell ⟨w.heap.size,3,none⟩ (sv [])).heap[q]? = some (RbO s _ _ _) from by
   have:=HXg.out.ql
   rw [blk_other (by omega),blk_other (by omega),blk_other (by omega),blk_other (by omega)]
   exact HXg.out.rd)
  have rc1:=blk_cell HXg.out.rd 1
  have rc2:=blk_cell HXg.out.rd 2
  have rl:=blk_lt HXg.out.rd
  have e0:=blk_cell HXg.out.eb 0
  have e1:=blk_cell HXg.out.eb 1
  have e2:=blk_cell HXg.out.eb 2
  have e3:=blk_cell HXg.out.eb 3
  have g0:=blk_free HXg.out.eb 0
  have g2:=blk_free HXg.out.eb 2
  have g3:=blk_free HXg.out.eb 3
  have el:=blk_lt HXg.out.eb
  simp only [List.getElem?_toArray,List.getElem?_cons_zero,List.getElem?_cons_succ] at rc1 rc2 e0 e1 e2 e3
  go_wp2_with fail
  change bodyPost _ _ _ _ _ ((((wxg.setCell ⟨w.heap.size,0,none⟩ (sv px)).setCell ⟨w.heap.size,1,none⟩ (.int .i64 k)).setCell ⟨w.heap.size,2,none⟩ (.int .i64 mx)).setCell ⟨w.heap.size,3,none⟩ (sv []))
  generalize ((((wxg.setCell ⟨w.heap.size,0,none⟩ (sv px)).setCell ⟨w.heap.size,1,none⟩ (.int .i64 k)).setCell ⟨w.heap.size,2,none⟩ (.int .i64 mx)).setCell ⟨w.heap.size,3,none⟩ (sv [])) = wf at *
  have z0:=blk_cell H4.out 0
  have z1:=blk_cell H4.out 1
  have z2:=blk_cell H4.out 2
  have z3:=blk_cell H4.out 3
  simp only [List.getElem?_toArray,List.getElem?_cons_zero,List.getElem?_cons_succ] at z0 z1 z2 z3
  refine bodyPost_ret (v:=entV ⟨px,k,mx,[]⟩) (by simp [results,Tryz.results87,go_sem,z0,z1,z2,z3]) rfl ?_
  exact ⟨_,_,rfl,HQ.out,HCX.out,HT.out⟩
 | true =>
 rw [if_neg (by rw [h8];decide)] at HD
 clear h8
 by_cases h9:s.length < a2 + 4 + dl
 ·rw [if_pos h9] at HD
  go_wp2_with fail
  refine (rtake_short q s (a2 + 2 + 2) a dl _ HI12.out.rd h7' hs2 (by omega)).mono ?_;rintro e w13 ⟨rfl,hq,ht⟩
  have HI13:=Lib.hid (HI12.out.turn hq ht)
  clear rc1 rc2 rl e0 e1 e2 e3 g0 g2 g3 el
  clear hq ht HI12
  have rc1:=blk_cell HI13.out.rd 1
  have rc2:=blk_cell HI13.out.rd 2
  have rl:=blk_lt HI13.out.rd
  have e0:=blk_cell HI13.out.eb 0
  have e1:=blk_cell HI13.out.eb 1
  have e2:=blk_cell HI13.out.eb 2
  have e3:=blk_cell HI13.out.eb 3
  have g0:=blk_free HI13.out.eb 0
  have g2:=blk_free HI13.out.eb 2
  have g3:=blk_free HI13.out.eb 3
  have el:=blk_lt HI13.out.eb
  simp only [List.getElem?_toArray,List.getElem?_cons_zero,List.getElem?_cons_succ] at rc1 rc2 e0 e1 e2 e3
  have HI14:=Lib.hid (HI13.out.data (d' := []))
  go_upto_region 25 with fail
  change Code.wp _ _ _ _ (w13.setCell ⟨w.heap.size + 1,3,none⟩ (sv []))
  generalize (w13.setCell ⟨w.heap.size + 1,3,none⟩ (sv [])) = w14 at *
  clear rc1 rc2 rl e0 e1 e2 e3 g0 g2 g3 el
  clear HI13
  have rc1:=blk_cell HI14.out.rd 1
  have rc2:=blk_cell HI14.out.rd 2
  have rl:=blk_lt HI14.out.rd
  have e0:=blk_cell HI14.out.eb 0
  have e1:=blk_cell HI14.out.eb 1
  have e2:=blk_cell HI14.out.eb 2
  have e3:=blk_cell HI14.out.eb 3
  have g0:=blk_free HI14.out.eb 0
  have g2:=blk_free HI14.out.eb 2
  have g3:=blk_free HI14.out.eb 3
  have el:=blk_lt HI14.out.eb
  simp only [List.getElem?_toArray,List.getElem?_cons_zero,List.getElem?_cons_succ] at rc1 rc2 e0 e1 e2 e3
  clear h9
  obtain ⟨ax,px,mx,dx,cx,bx,hRE,hcx,hRR⟩:∃ (ax:Nat) (px:Nm) (mx:Int) (dx:Nm) (cx:Int) (bx:Nat),RE w q s ax px k mx dx cx bx w14 ∧ cx ≠ 0 ∧ R = .error (bx,cx):=⟨_,_,_,_,_,_,HI14.out,by decide,HD.out.symm⟩
  have HX:=Lib.hid hRE
  have HCX:=Lib.hid hcx
  have hc0:(cx == 0) = false:=beq_eq_false_iff_ne.2 hcx
  clear rc1 rc2 rl e0 e1 e2 e3 g0 g2 g3 el
  clear HI14 HD hRE hcx
  subst hRR
  have rc1:=blk_cell HX.out.rd 1
  have rc2:=blk_cell HX.out.rd 2
  have rl:=blk_lt HX.out.rd
  have e0:=blk_cell HX.out.eb 0
  have e1:=blk_cell HX.out.eb 1
  have e2:=blk_cell HX.out.eb 2
  have e3:=blk_cell HX.out.eb 3
  have g0:=blk_free HX.out.eb 0
  have g2:=blk_free HX.out.eb 2
  have g3:=blk_free HX.out.eb 3
  have el:=blk_lt HX.out.eb
  simp only [List.getElem?_toArray,List.getElem?_cons_zero,List.getElem?_cons_succ] at rc1 rc2 e0 e1 e2 e3
  clear rc1 rc2 rl e0 e1 e2 e3 g0 g2 g3 el
  have R0:=blk_cell HX.out.rb 0
  have R1:=blk_cell HX.out.rb 1
  have R2:=blk_cell HX.out.rb 2
  have R3:=blk_cell HX.out.rb 3
  have F0:=blk_free HX.out.rb 0
  have F1:=blk_free HX.out.rb 1
  have F2:=blk_free HX.out.rb 2
  have F3:=blk_free HX.out.rb 3
  have FL:=blk_lt HX.out.rb
  simp only [List.getElem?_toArray,List.getElem?_cons_zero,List.getElem?_cons_succ] at R0 R1 R2 R3
  have H4:=Lib.hid (res4 HX.out.rb (sv px) (.int .i64 k) (.int .i64 mx) (sv dx))
  have HT:Hid (Turned [q] w ((((w14.setCell ⟨w.heap.size,0,none⟩ (sv px)).setCell ⟨w.heap.size,1,none⟩ (.int .i64 k)).setCell ⟨w.heap.size,2,none⟩ (.int .i64 mx)).setCell ⟨w.heap.size,3,none⟩ (sv dx))):=
   tur_set (tur_set (tur_set (tur_set HX.out.tur (Nat.le_refl _) _) (Nat.le_refl _) _) (Nat.le_refl _) _) (Nat.le_refl _) _
  have HQ:=Lib.hid (show ((((w14.setCell ⟨w.heap.size,0,none⟩ (sv px)).setCell ⟨w.heap.size,1,none⟩ (.int .i64 k)).setCell ⟨w.heap.size,2,none⟩ (.int .i64 mx)).setCell ⟨w.heap.size,3,none⟩ (sv dx)).heap[q]? = some (RbO s _ _ _) from by
   have:=HX.out.ql
   rw [blk_other (by omega),blk_other (by omega),blk_other (by omega),blk_other (by omega)]
   exact HX.out.rd)
  have rc1:=blk_cell HX.out.rd 1
  have rc2:=blk_cell HX.out.rd 2
  have rl:=blk_lt HX.out.rd
  have e0:=blk_cell HX.out.eb 0
  have e1:=blk_cell HX.out.eb 1
  have e2:=blk_cell HX.out.eb 2
  have e3:=blk_cell HX.out.eb 3
  have g0:=blk_free HX.out.eb 0
  have g2:=blk_free HX.out.eb 2
  have g3:=blk_free HX.out.eb 3
  have el:=blk_lt HX.out.eb
  simp only [List.getElem?_toArray,List.getElem?_cons_zero,List.getElem?_cons_succ] at rc1 rc2 e0 e1 e2 e3
  go_wp2_with fail
  change bodyPost _ _ _ _ _ ((((w14.setCell ⟨w.heap.size,0,none⟩ (sv px)).setCell ⟨w.heap.size,1,none⟩ (.int .i64 k)).setCell ⟨w.heap.size,2,none⟩ (.int .i64 mx)).setCell ⟨w.heap.size,3,none⟩ (sv dx))
  generalize ((((w14.setCell ⟨w.heap.size,0,none⟩ (sv px)).setCell ⟨w.heap.size,1,none⟩ (.int .i64 k)).setCell ⟨w.heap.size,2,none⟩ (.int .i64 mx)).setCell ⟨w.heap.size,3,none⟩ (sv dx)) = wf at *
  have z0:=blk_cell H4.out 0
  have z1:=blk_cell H4.out 1
  have z2:=blk_cell H4.out 2
  have z3:=blk_cell H4.out 3
  simp only [List.getElem?_toArray,List.getElem?_cons_zero,List.getElem?_cons_succ] at z0 z1 z2 z3
  refine bodyPost_ret (v:=entV ⟨px,k,mx,dx⟩) (by simp [results,Tryz.results87,go_sem,z0,z1,z2,z3]) rfl ?_
  exact ⟨_,_,rfl,HQ.out,HCX.out,HT.out⟩
 rw [if_neg h9] at HD
 have HN:=Lib.hid (rtake_ok q s (a2 + 2 + 2) a dl _ HI12.out.rd hs2 (by omega))
 rw [show a2 + 2 + 2 = a2 + 4 from rfl] at HN
 have hdl:(sub s (a2 + 4) dl).length ≤ 65536:=by unfold sub;rw [List.length_take];omega
 generalize sub s (a2 + 4) dl = d at *
 clear h9
 go_wp2_with fail
 refine (HN.out).mono ?_;rintro e w13 ⟨rfl,hq,ht⟩
 have HI13:=Lib.hid (HI12.out.turn hq ht)
 clear rc1 rc2 rl e0 e1 e2 e3 g0 g2 g3 el
 clear hq ht HI12
 have rc1:=blk_cell HI13.out.rd 1
 have rc2:=blk_cell HI13.out.rd 2
 have rl:=blk_lt HI13.out.rd
 have e0:=blk_cell HI13.out.eb 0
 have e1:=blk_cell HI13.out.eb 1
 have e2:=blk_cell HI13.out.eb 2
 have e3:=blk_cell HI13.out.eb 3
 have g0:=blk_free HI13.out.eb 0
 have g2:=blk_free HI13.out.eb 2
 have g3:=blk_free HI13.out.eb 3
 have el:=blk_lt HI13.out.eb
 simp only [List.getElem?_toArray,List.getElem?_cons_zero,List.getElem?_cons_succ] at rc1 rc2 e0 e1 e2 e3
 clear HN
 have HI14:=Lib.hid (HI13.out.data (d':=d))
 go_upto_region 25 with fail
 change Code.wp _ _ _ _ (w13.setCell ⟨w.heap.size + 1,3,none⟩ (sv d))
 generalize (w13.setCell ⟨w.heap.size + 1,3,none⟩ (sv d)) = W14 at *
 clear rc1 rc2 rl e0 e1 e2 e3 g0 g2 g3 el
 clear HI13
 have rc1:=blk_cell HI14.out.rd 1
 have rc2:=blk_cell HI14.out.rd 2
 have rl:=blk_lt HI14.out.rd
 have e0:=blk_cell HI14.out.eb 0
 have e1:=blk_cell HI14.out.eb 1
 have e2:=blk_cell HI14.out.eb 2
 have e3:=blk_cell HI14.out.eb 3
 have g0:=blk_free HI14.out.eb 0
 have g2:=blk_free HI14.out.eb 2
 have g3:=blk_free HI14.out.eb 3
 have el:=blk_lt HI14.out.eb
 simp only [List.getElem?_toArray,List.getElem?_cons_zero,List.getElem?_cons_succ] at rc1 rc2 e0 e1 e2 e3
 have HTG:=Lib.hid (fun W=>target_any d W (by omega))
 by_cases h10:k = 3 ∧ (0:UInt8) ∈ d
 ·rw [if_pos h10] at HD
  have hb3:(k == 3) = true:=by rw [beq_iff_eq];exact h10.1
  have hb4:(!decide ((0:UInt8) ∈ d)) = false:=by rw [decide_eq_true h10.2];rfl
  clear h10
  go_wp2_with fail
  refine (HTG.out _).mono ?_;rintro e w' ⟨rfl,rfl⟩
  rw [hb4]
  go_wp2_with fail
  refine (fault_live q s (a2 + 4 + dl) a 1308 ((a2 + 4:Nat):Int) _ HI14.out.rd).mono ?_;rintro e w15 ⟨rfl,hq,ht⟩
  have HI15:=Lib.hid (HI14.out.turn hq ht)
  clear rc1 rc2 rl e0 e1 e2 e3 g0 g2 g3 el
  clear hq ht HI14
  have rc1:=blk_cell HI15.out.rd 1
  have rc2:=blk_cell HI15.out.rd 2
  have rl:=blk_lt HI15.out.rd
  have e0:=blk_cell HI15.out.eb 0
  have e1:=blk_cell HI15.out.eb 1
  have e2:=blk_cell HI15.out.eb 2
  have e3:=blk_cell HI15.out.eb 3
  have g0:=blk_free HI15.out.eb 0
  have g2:=blk_free HI15.out.eb 2
  have g3:=blk_free HI15.out.eb 3
  have el:=blk_lt HI15.out.eb
  simp only [List.getElem?_toArray,List.getElem?_cons_zero,List.getElem?_cons_succ] at rc1 rc2 e0 e1 e2 e3
  obtain ⟨ax,px,mx,dx,cx,bx,hRE,hcx,hRR⟩:∃ (ax:Nat) (px:Nm) (mx:Int) (dx:Nm) (cx:Int) (bx:Nat),RE w q s ax px k mx dx cx bx w15 ∧ cx ≠ 0 ∧ R = .error (bx,cx):=⟨_,_,_,_,_,_,HI15.out,by decide,HD.out.symm⟩
  have HX:=Lib.hid hRE
  have HCX:=Lib.hid hcx
  have hc0:(cx == 0) = false:=beq_eq_false_iff_ne.2 hcx
  clear rc1 rc2 rl e0 e1 e2 e3 g0 g2 g3 el
  clear HI15 HD hRE hcx
  subst hRR
  have rc1:=blk_cell HX.out.rd 1
  have rc2:=blk_cell HX.out.rd 2
  have rl:=blk_lt HX.out.rd
  have e0:=blk_cell HX.out.eb 0
  have e1:=blk_cell HX.out.eb 1
  have e2:=blk_cell HX.out.eb 2
  have e3:=blk_cell HX.out.eb 3
  have g0:=blk_free HX.out.eb 0
  have g2:=blk_free HX.out.eb 2
  have g3:=blk_free HX.out.eb 3
  have el:=blk_lt HX.out.eb
  simp only [List.getElem?_toArray,List.getElem?_cons_zero,List.getElem?_cons_succ] at rc1 rc2 e0 e1 e2 e3
  clear rc1 rc2 rl e0 e1 e2 e3 g0 g2 g3 el
  have R0:=blk_cell HX.out.rb 0
  have R1:=blk_cell HX.out.rb 1
  have R2:=blk_cell HX.out.rb 2
  have R3:=blk_cell HX.out.rb 3
  have F0:=blk_free HX.out.rb 0
  have F1:=blk_free HX.out.rb 1
  have F2:=blk_free HX.out.rb 2
  have F3:=blk_free HX.out.rb 3
  have FL:=blk_lt HX.out.rb
  simp only [List.getElem?_toArray,List.getElem?_cons_zero,List.getElem?_cons_succ] at R0 R1 R2 R3
  have H4:=Lib.hid (res4 HX.out.rb (sv px) (.int .i64 k) (.int .i64 mx) (sv dx))
  have HT:Hid (Turned [q] w ((((w15.setCell ⟨w.heap.size,0,none⟩ (sv px)).setCell ⟨w.heap.size,1,none⟩ (.int .i64 k)).setCell ⟨w.heap.size,2,none⟩ (.int .i64 mx)).setCell ⟨w.heap.size,3,none⟩ (sv dx))):=
   tur_set (tur_set (tur_set (tur_set HX.out.tur (Nat.le_refl _) _) (Nat.le_refl _) _) (Nat.le_refl _) _) (Nat.le_refl _) _
  have HQ:=Lib.hid (show ((((w15.setCell ⟨w.heap.size,0,none⟩ (sv px)).setCell ⟨w.heap.size,1,none⟩ (.int .i64 k)).setCell ⟨w.heap.size,2,none⟩ (.int .i64 mx)).setCell ⟨w.heap.size,3,none⟩ (sv dx)).heap[q]? = some (RbO s _ _ _) from by
   have:=HX.out.ql
   rw [blk_other (by omega),blk_other (by omega),blk_other (by omega),blk_other (by omega)]
   exact HX.out.rd)
  have rc1:=blk_cell HX.out.rd 1
  have rc2:=blk_cell HX.out.rd 2
  have rl:=blk_lt HX.out.rd
  have e0:=blk_cell HX.out.eb 0
  have e1:=blk_cell HX.out.eb 1
  have e2:=blk_cell HX.out.eb 2
  have e3:=blk_cell HX.out.eb 3
  have g0:=blk_free HX.out.eb 0
  have g2:=blk_free HX.out.eb 2
  have g3:=blk_free HX.out.eb 3
  have el:=blk_lt HX.out.eb
  simp only [List.getElem?_toArray,List.getElem?_cons_zero,List.getElem?_cons_succ] at rc1 rc2 e0 e1 e2 e3
  go_wp2_with fail
  change bodyPost _ _ _ _ _ ((((w15.setCell ⟨w.heap.size,0,none⟩ (sv px)).setCell ⟨w.heap.size,1,none⟩ (.int .i64 k)).setCell ⟨w.heap.size,2,none⟩ (.int .i64 mx)).setCell ⟨w.heap.size,3,none⟩ (sv dx))
  generalize ((((w15.setCell ⟨w.heap.size,0,none⟩ (sv px)).setCell ⟨w.heap.size,1,none⟩ (.int .i64 k)).setCell ⟨w.heap.size,2,none⟩ (.int .i64 mx)).setCell ⟨w.heap.size,3,none⟩ (sv dx)) = wf at *
  have z0:=blk_cell H4.out 0
  have z1:=blk_cell H4.out 1
  have z2:=blk_cell H4.out 2
  have z3:=blk_cell H4.out 3
  simp only [List.getElem?_toArray,List.getElem?_cons_zero,List.getElem?_cons_succ] at z0 z1 z2 z3
  refine bodyPost_ret (v:=entV ⟨px,k,mx,dx⟩) (by simp [results,Tryz.results87,go_sem,z0,z1,z2,z3]) rfl ?_
  exact ⟨_,_,rfl,HQ.out,HCX.out,HT.out⟩
 rw [if_neg h10] at HD
 by_cases hk3:k = 3
 ·have hb3:(k == 3) = true:=by rw [beq_iff_eq];exact hk3
  have hb4:(!decide ((0:UInt8) ∈ d)) = true:=by rw [decide_eq_false (fun h=>h10 ⟨hk3,h⟩)];rfl
  clear h10 hk3
  go_wp2_with fail
  refine (HTG.out _).mono ?_;rintro e w' ⟨rfl,rfl⟩
  rw [hb4]
  clear rc1 rc2 rl e0 e1 e2 e3 g0 g2 g3 el
  have R0:=blk_cell HI14.out.rb 0
  have R1:=blk_cell HI14.out.rb 1
  have R2:=blk_cell HI14.out.rb 2
  have R3:=blk_cell HI14.out.rb 3
  have F0:=blk_free HI14.out.rb 0
  have F1:=blk_free HI14.out.rb 1
  have F2:=blk_free HI14.out.rb 2
  have F3:=blk_free HI14.out.rb 3
  have FL:=blk_lt HI14.out.rb
  simp only [List.getElem?_toArray,List.getElem?_cons_zero,List.getElem?_cons_succ] at R0 R1 R2 R3
  have H4:=Lib.hid (res4 HI14.out.rb (sv p) (.int .i64 k) (.int .i64 m) (sv d))
  have HT:Hid (Turned [q] w ((((W14.setCell ⟨w.heap.size,0,none⟩ (sv p)).setCell ⟨w.heap.size,1,none⟩ (.int .i64 k)).setCell ⟨w.heap.size,2,none⟩ (.int .i64 m)).setCell ⟨w.heap.size,3,none⟩ (sv d))):=
   tur_set (tur_set (tur_set (tur_set HI14.out.tur (Nat.le_refl _) _) (Nat.le_refl _) _) (Nat.le_refl _) _) (Nat.le_refl _) _
  have HQ:=Lib.hid (show ((((W14.setCell ⟨w.heap.size,0,none⟩ (sv p)).setCell ⟨w.heap.size,1,none⟩ (.int .i64 k)).setCell ⟨w.heap.size,2,none⟩ (.int .i64 m)).setCell ⟨w.heap.size,3,none⟩ (sv d)).heap[q]? = some (RbO s _ _ _) from by
   have:=HI14.out.ql
   rw [blk_other (by omega),blk_other (by omega),blk_other (by omega),blk_other (by omega)]
   exact HI14.out.rd)
  have rc1:=blk_cell HI14.out.rd 1
  have rc2:=blk_cell HI14.out.rd 2
  have rl:=blk_lt HI14.out.rd
  have e0:=blk_cell HI14.out.eb 0
  have e1:=blk_cell HI14.out.eb 1
  have e2:=blk_cell HI14.out.eb 2
  have e3:=blk_cell HI14.out.eb 3
  have g0:=blk_free HI14.out.eb 0
  have g2:=blk_free HI14.out.eb 2
  have g3:=blk_free HI14.out.eb 3
  have el:=blk_lt HI14.out.eb
  simp only [List.getElem?_toArray,List.getElem?_cons_zero,List.getElem?_cons_succ] at rc1 rc2 e0 e1 e2 e3
  go_wp2_with fail
  change bodyPost _ _ _ _ _ ((((W14.setCell ⟨w.heap.size,0,none⟩ (sv p)).setCell ⟨w.heap.size,1,none⟩ (.int .i64 k)).setCell ⟨w.heap.size,2,none⟩ (.int .i64 m)).setCell ⟨w.heap.size,3,none⟩ (sv d))
  generalize ((((W14.setCell ⟨w.heap.size,0,none⟩ (sv p)).setCell ⟨w.heap.size,1,none⟩ (.int .i64 k)).setCell ⟨w.heap.size,2,none⟩ (.int .i64 m)).setCell ⟨w.heap.size,3,none⟩ (sv d)) = wf at *
  have z0:=blk_cell H4.out 0
  have z1:=blk_cell H4.out 1
  have z2:=blk_cell H4.out 2
  have z3:=blk_cell H4.out 3
  simp only [List.getElem?_toArray,List.getElem?_cons_zero,List.getElem?_cons_succ] at z0 z1 z2 z3
  refine bodyPost_ret (v:=entV ⟨p,k,m,d⟩) (by simp [results,Tryz.results87,go_sem,z0,z1,z2,z3]) rfl ?_
  rw [← HD.out]
  exact ⟨_,rfl,HQ.out,HT.out⟩
 have hb3:(k == 3) = false:=beq_eq_false_iff_ne.2 hk3
 clear h10 hk3 HTG
 clear rc1 rc2 rl e0 e1 e2 e3 g0 g2 g3 el
 have R0:=blk_cell HI14.out.rb 0
 have R1:=blk_cell HI14.out.rb 1
 have R2:=blk_cell HI14.out.rb 2
 have R3:=blk_cell HI14.out.rb 3
 have F0:=blk_free HI14.out.rb 0
 have F1:=blk_free HI14.out.rb 1
 have F2:=blk_free HI14.out.rb 2
 have F3:=blk_free HI14.out.rb 3
 have FL:=blk_lt HI14.out.rb
 simp only [List.getElem?_toArray,List.getElem?_cons_zero,List.getElem?_cons_succ] at R0 R1 R2 R3
 have H4:=Lib.hid (res4 HI14.out.rb (sv p) (.int .i64 k) (.int .i64 m) (sv d))
 have HT:Hid (Turned [q] w ((((W14.setCell ⟨w.heap.size,0,none⟩ (sv p)).setCell ⟨w.heap.size,1,none⟩ (.int .i64 k)).setCell ⟨w.heap.size,2,none⟩ (.int .i64 m)).setCell ⟨w.heap.size,3,none⟩ (sv d))):=
  tur_set (tur_set (tur_set (tur_set HI14.out.tur (Nat.le_refl _) _) (Nat.le_refl _) _) (Nat.le_refl _) _) (Nat.le_refl _) _
 have HQ:=Lib.hid (show ((((W14.setCell ⟨w.heap.size,0,none⟩ (sv p)).setCell ⟨w.heap.size,1,none⟩ (.int .i64 k)).setCell ⟨w.heap.size,2,none⟩ (.int .i64 m)).setCell ⟨w.heap.size,3,none⟩ (sv d)).heap[q]? = some (RbO s _ _ _) from by
  have:=HI14.out.ql
  rw [blk_other (by omega),blk_other (by omega),blk_other (by omega),blk_other (by omega)]
  exact HI14.out.rd)
 have rc1:=blk_cell HI14.out.rd 1
 have rc2:=blk_cell HI14.out.rd 2
 have rl:=blk_lt HI14.out.rd
 have e0:=blk_cell HI14.out.eb 0
 have e1:=blk_cell HI14.out.eb 1
 have e2:=blk_cell HI14.out.eb 2
 have e3:=blk_cell HI14.out.eb 3
 have g0:=blk_free HI14.out.eb 0
 have g2:=blk_free HI14.out.eb 2
 have g3:=blk_free HI14.out.eb 3
 have el:=blk_lt HI14.out.eb
 simp only [List.getElem?_toArray,List.getElem?_cons_zero,List.getElem?_cons_succ] at rc1 rc2 e0 e1 e2 e3
 go_wp2_with fail
 change bodyPost _ _ _ _ _ ((((W14.setCell ⟨w.heap.size,0,none⟩ (sv p)).setCell ⟨w.heap.size,1,none⟩ (.int .i64 k)).setCell ⟨w.heap.size,2,none⟩ (.int .i64 m)).setCell ⟨w.heap.size,3,none⟩ (sv d))
 generalize ((((W14.setCell ⟨w.heap.size,0,none⟩ (sv p)).setCell ⟨w.heap.size,1,none⟩ (.int .i64 k)).setCell ⟨w.heap.size,2,none⟩ (.int .i64 m)).setCell ⟨w.heap.size,3,none⟩ (sv d)) = wf at *
 have z0:=blk_cell H4.out 0
 have z1:=blk_cell H4.out 1
 have z2:=blk_cell H4.out 2
 have z3:=blk_cell H4.out 3
 simp only [List.getElem?_toArray,List.getElem?_cons_zero,List.getElem?_cons_succ] at z0 z1 z2 z3
 refine bodyPost_ret (v:=entV ⟨p,k,m,d⟩) (by simp [results,Tryz.results87,go_sem,z0,z1,z2,z3]) rfl ?_
 rw [← HD.out]
 exact ⟨_,rfl,HQ.out,HT.out⟩
end Go.Proofs.YtifhnpkapgaboaaGreat.arch
