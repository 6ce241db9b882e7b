/-
  Proved: what read of the program's parser returns at a recipe. Conditions: as each theorem says.
  Proved: what the program's Script and Recipe return, of every text. Conditions: as each theorem says.
-/
import Derived.Test.YtmfpmandkhiknaaGreatDoorPu30
import Derived.Test.YtmfpmandkhiknaaGreatDoorPu31
set_option linter.unusedVariables false
set_option linter.unusedSimpArgs false
namespace Go.Proofs.YtmfpmandkhiknaaGreatDoor.qar
open par
open Go.RowKit
open heap
open lex (Tk TRow TkAt run_store_float add0 scanL Tokens_any tab_below)
open many (envOf st0)
open num (list_len)
set_option maxRecDepth 100000
attribute [local go_sem] run_store_float field_tok0 field_tok1 field_tok3
set_option maxHeartbeats 4000000 in
theorem read_recipe (s:ByteArray) (w:World) (hs:s.size ≤ maxLen) (htab:Lib.TabIs Tryz.prog w "strings.asciiSpace" .u8 Lib.asciiSpaceTab) (hmx:∃ m:Int,w.cell? ⟨1,0,none⟩ = some (.int .i64 m)) (x:Nd) (s9:PS)
  (hF:∀ (p:Nat) (v:Value) (W:World),PAt W p v (envOf s.data.toList) st0 → Calls Tryz.prog 50 #[PP p] W (ScrR p v (envOf s.data.toList) s9 x W))
  (hlong:16384 < s.size → s9.code = 1803 ∧ s9.bad = 0) :
  Calls Tryz.prog 49 #[.string s,.func (.func 50) #[] #[]] w (TreeR x s9 w):=by
 have hmf:∀ (fn:Fn) (first cap:Array Value) (w:World),(Instr.makeFunc fn first cap).run Tryz.prog w = .ok (.func fn first cap) w:=fun _ _ _ _=>rfl
 have HT:=Lib.hid (fun (z:ByteArray) (W:World) (hz:z.size ≤ maxLen) (hb:Below w.heap.size w W)=>Tok_all z W hz (tab_below htab hb))
 have HMX:=Lib.hid hmx
 have HF:=Lib.hid hF
 have HLO:=Lib.hid hlong
 have HSZ:=Lib.hid hs
 clear htab hmx hF hlong hs
 go_enter_defers Tryz.func49,Tryz.ntmps49
 go_wp2_with fail
 have HB3:Hid (Below w.heap.size w (((w.alloc (ndO zero (.slice none 0 0))).alloc (.cells #[.int .i64 0] 3 (0,0))).alloc (.cells #[.int .i64 0] 25 (0,0)))):=(((Below.refl _ _).alloc (Nat.le_refl _) _).alloc (by simp) _).alloc (by simp;omega) _
 have HR3:Hid (ResAt (((w.alloc (ndO zero (.slice none 0 0))).alloc (.cells #[.int .i64 0] 3 (0,0))).alloc (.cells #[.int .i64 0] 25 (0,0))) w.heap.size (w.heap.size + 1) (w.heap.size + 1 + 1) (.int .i64 0) (.string ⟨#[]⟩) (.float .f64 0) (.slice none 0 0) (.int .i64 0) (.int .i64 0) (.int .i64 0)):=by
  refine ⟨blk_old (blk_old (blk_new _ _) _) _,blk_old ?_ _,?_⟩
  ·have:=blk_new (w.alloc (ndO zero (.slice none 0 0))) (.cells #[.int .i64 0] 3 (0,0))
   simpa using this
  ·have:=blk_new ((w.alloc (ndO zero (.slice none 0 0))).alloc (.cells #[.int .i64 0] 3 (0,0))) (.cells #[.int .i64 0] 25 (0,0))
   simpa using this
 change Calls _ _ _ (((w.alloc (ndO zero (.slice none 0 0))).alloc (.cells #[.int .i64 0] 3 (0,0))).alloc (.cells #[.int .i64 0] 25 (0,0))) _
 generalize (((w.alloc (ndO zero (.slice none 0 0))).alloc (.cells #[.int .i64 0] 3 (0,0))).alloc (.cells #[.int .i64 0] 25 (0,0))) = wa at *
 have hsza:=HR3.out.cells.l6
 refine (HT.out s wa HSZ.out HB3.out).mono ?_
 rintro e wb ⟨v,rfl,h0,h1,hb⟩
 obtain ⟨pa,hpa⟩:∃ q,(scanL s.data.toList).2.1 = q:=⟨_,rfl⟩
 obtain ⟨er,her⟩:∃ q,(scanL s.data.toList).2.2 = q:=⟨_,rfl⟩
 rw [hpa,her]
 rw [her] at h0 h1
 have HR4:=Lib.hid (HR3.out.turned (Turned.of_below (S := []) hb) (by simp) (by simp) (by simp))
 have HB4:=Lib.hid (HB3.out.trans (hb.mono HB3.out.size))
 have HZ4:=Lib.hid hb.size
 clear hb HR3 HB3
 obtain ⟨c0,c1,c2,c3,c4,c5,c6,f0,f1,f2,f3,f4,f5,f6,l4,l5,l6⟩:=HR4.out.cells
 go_upto_region 3 with fail
 have HR5:=Lib.hid ((HR4.out.set5 (by omega) (by omega) (.int .i64 pa)).set6 (by omega) (by omega) (.int .i64 er))
 have HB5:=Lib.hid ((HB4.out.setCell (p:=⟨w.heap.size + 1,0,none⟩) (by simp) (.int .i64 pa)).setCell (p:=⟨w.heap.size + 1 + 1,0,none⟩) (by simp;omega) (.int .i64 er))
 have HRW:Hid (er = 0 → TRow ((wb.setCell ⟨w.heap.size + 1,0,none⟩ (.int .i64 pa)).setCell ⟨w.heap.size + 1 + 1,0,none⟩ (.int .i64 er)) wa.heap.size v (scanL s.data.toList).1):=fun h=>by
  have hr:=h0 h
  refine lex.trow_kept hr (fun g o hg ho => ?_)
  have hge:=(World.ownsRow.lt hr g hg).1
  rw [blk_other (by omega),blk_other (by omega)]
  exact ho
 clear c0 c1 c2 c3 c4 c5 c6 f0 f1 f2 f3 f4 f5 f6 l4 l5 l6 HR4 HB4 h0
 generalize ((wb.setCell _ _).setCell _ _) = wc at *
 obtain ⟨c0,c1,c2,c3,c4,c5,c6,f0,f1,f2,f3,f4,f5,f6,l4,l5,l6⟩:=HR5.out.cells
 by_cases e0:er = 0
 ·subst e0
  have HR:Hid (RS w s.data.toList v pa 0 wc):=⟨HR5.out,by rw [pts_good her];exact trow_base (HRW.out rfl) hsza,HB5.out⟩
  have HER:=Lib.hid her
  clear h1 hpa her HRW HT HLO HSZ
  go_upto_region 8 with fail
  clear c0 c1 c2 c3 c4 c5 c6 f0 f1 f2 f3 f4 f5 f6 l4 l5 l6 HR5 HB5
  obtain ⟨wr,rfl⟩:∃ wr:World,wr = wc:=⟨_,rfl⟩
  have hpat:=HR.out.pat HMX.out
  obtain ⟨c0,c1,c2,c3,c4,c5,c6,f0,f1,f2,f3,f4,f5,f6,l4,l5,l6⟩:=HR.out.res.cells
  obtain ⟨av,cv,rfl⟩:=HR.out.row.slice
  have hcd:(envOf s.data.toList).lex = 0:=HER.out
  have HPAT:Hid (PAt (wr.alloc (.cells #[.slice av (pts (envOf s.data.toList)).length cv,.int .i64 0,.int .i64 0,.int .i64 0] 133 (0,0))) wr.heap.size (.slice av (pts (envOf s.data.toList)).length cv) (envOf s.data.toList) st0):=by
   have h:PAt (wr.alloc (.cells #[.slice av (pts (envOf s.data.toList)).length cv,.int .i64 0,.int .i64 (envOf s.data.toList).lex,.int .i64 0] 133 (0,0))) wr.heap.size (.slice av (pts (envOf s.data.toList)).length cv) (envOf s.data.toList) st0:=hpat
   rw [hcd] at h
   exact h
  have HAL:=Lib.hid (((HR.out.alloc (.cells #[.slice av (pts (envOf s.data.toList)).length cv,.int .i64 0,.int .i64 0,.int .i64 0] 133 (0,0)))))
  clear hpat hcd
  generalize (pts (envOf s.data.toList)).length = pl at *
  go_wp2_with fail
  refine (HF.out _ _ _ HPAT.out).mono ?_
  intro e w2 hp
  have hszr:=HR.out.bel.size
  have hsz4:=HR.out.res.cells.l6
  clear c0 c1 c2 c3 c4 c5 c6 f0 f1 f2 f3 f4 f5 f6 l4 l5 l6
  rcases hp with ⟨hcz,t9,a9,n9,S9,rfl,hk,hS,hP,hT⟩ | ⟨hcz,rfl,hT⟩
  ·have HR2:=Lib.hid (HAL.out.1.turned hT (by simp;omega) (by simp;omega) (by simp;omega))
   have HB2:=Lib.hid (HAL.out.2.trans (hT.below (by simp;omega) (by simp;omega)))
   have HTR:Hid ((Tr.mk x.kids (.slice a9 x.kids.length n9) S9).ok w2 ∧ (∀ b ∈ S9,wr.heap.size + 1 ≤ b) ∧ s9.code = 0):=⟨hk,by simpa using hS,hcz⟩
   clear hk hS hP hT hcz HPAT HAL HF
   obtain ⟨c0,c1,c2,c3,c4,c5,c6,f0,f1,f2,f3,f4,f5,f6,l4,l5,l6⟩:=HR2.out.cells
   go_wp2_with fail
   refine leaves_cons (f:=67) (args := #[.pointer (some ⟨w.heap.size,0,none⟩),.pointer (some ⟨w.heap.size + 1,0,none⟩),.pointer (some ⟨w.heap.size + 1 + 1,0,none⟩)]) (by simp) (by simp [go_sem]) ?_
   refine (read1_idle _ _ _ _).mono ?_
   rintro e u' w3 ⟨rfl,rfl,rfl⟩
   have HR6:=Lib.hid (((HR2.out.set4 (by omega) (by omega) (.int .i64 x.kind) (.string ⟨x.text.toArray⟩) (.float .f64 x.num) (.slice a9 x.kids.length n9) (.int .i64 x.at')).set5 (by omega) (by omega) (.int .i64 0)).set6 (by omega) (by omega) (.int .i64 0))
   have HT6:Hid (Turned [w.heap.size,w.heap.size + 1,w.heap.size + 1 + 1] w2 ((((((((w2.setCell _ _).setCell _ _).setCell _ _).setCell _ _).setCell _ _)).setCell _ _).setCell _ _)):=(((((((Turned.refl [w.heap.size,w.heap.size + 1,w.heap.size + 1 + 1] w2).setCell (p:=⟨w.heap.size,0,none⟩) (by simp) (.int .i64 x.kind)).setCell (p:=⟨w.heap.size,1,none⟩) (by simp) (.string ⟨x.text.toArray⟩)).setCell (p:=⟨w.heap.size,2,none⟩) (by simp) (.float .f64 x.num)).setCell (p:=⟨w.heap.size,3,none⟩) (by simp) (.slice a9 x.kids.length n9)).setCell (p:=⟨w.heap.size,4,none⟩) (by simp) (.int .i64 x.at')).setCell (p:=⟨w.heap.size + 1,0,none⟩) (by simp) (.int .i64 0)).setCell (p:=⟨w.heap.size + 1 + 1,0,none⟩) (by simp) (.int .i64 0)
   clear c0 c1 c2 c3 c4 c5 c6 f0 f1 f2 f3 f4 f5 f6 l4 l5 l6 HR2
   generalize (((((((w2.setCell _ _).setCell _ _).setCell _ _).setCell _ _).setCell _ _)).setCell _ _).setCell _ _ = wf at HR6 HT6 ⊢
   obtain ⟨c0,c1,c2,c3,c4,c5,c6,f0,f1,f2,f3,f4,f5,f6,l4,l5,l6⟩:=HR6.out.cells
   refine ⟨.tuple #[.agg #[.int .i64 x.kind,.string ⟨x.text.toArray⟩,.float .f64 x.num,.slice a9 x.kids.length n9,.int .i64 x.at'],.int .i64 0,.int .i64 0],by simp [results,Tryz.results49,go_sem,c0,c1,c2,c3,c4,c5,c6],?_⟩
   obtain ⟨hk,hS,hcz⟩:=HTR.out
   rw [TreeR,if_pos hcz]
   exact ⟨a9,n9,S9,rfl,hk.turned HT6.out (fun b hb=>by have:=hS b hb;simp;omega),fun b hb=>by have:=hS b hb;omega,HB2.out.trans (HT6.out.below HB2.out.size (by simp;omega))⟩
  ·have HR2:=Lib.hid (HAL.out.1.turned hT (by simp;omega) (by simp;omega) (by simp;omega))
   have HB2:=Lib.hid (HAL.out.2.trans (hT.below (by simp;omega) (by simp;omega)))
   have HCZ:=Lib.hid hcz
   clear hT hcz HPAT HAL HF
   go_wp2_with fail
   refine leaves_cons (f:=67) (args := #[.pointer (some ⟨w.heap.size,0,none⟩),.pointer (some ⟨w.heap.size + 1,0,none⟩),.pointer (some ⟨w.heap.size + 1 + 1,0,none⟩)]) (by simp) (by simp [go_sem]) ?_
   refine (read1_panic _ _ _ _ _ _ _ _ _ _ s9.bad s9.code _ HR2.out (by omega) (by omega) (by omega)).mono ?_
   rintro e u' w3 ⟨rfl,rfl,hr,ht⟩
   obtain ⟨c0,c1,c2,c3,c4,c5,c6,f0,f1,f2,f3,f4,f5,f6,l4,l5,l6⟩:=hr.cells
   refine ⟨.tuple #[.agg #[.int .i64 0,.string ⟨#[]⟩,.float .f64 0,.slice none 0 0,.int .i64 0],.int .i64 s9.bad,.int .i64 s9.code],by simp [results,Tryz.results49,go_sem,c0,c1,c2,c3,c4,c5,c6],?_⟩
   rw [TreeR,if_neg HCZ.out]
   exact ⟨rfl,HB2.out.trans (ht.below HB2.out.size (by simp;omega))⟩
 ·by_cases e3:er = 1803
  ·subst e3
   have hl:=(long_iff _).1 her
   rw [list_len] at hl
   have HCB:=Lib.hid (HLO.out hl)
   clear h1 hpa her HRW HT HLO HSZ hl HF e0
   go_wp2_with fail
   refine (fail_any _ _ _).mono ?_;rintro e w2 ⟨rfl,rfl⟩
   clear c0 c1 c2 c3 c4 c5 c6 f0 f1 f2 f3 f4 f5 f6 l4 l5 l6
   go_wp2_with fail
   refine leaves_cons (f:=67) (args := #[.pointer (some ⟨w.heap.size,0,none⟩),.pointer (some ⟨w.heap.size + 1,0,none⟩),.pointer (some ⟨w.heap.size + 1 + 1,0,none⟩)]) (by simp) (by simp [go_sem]) ?_
   refine (read1_panic _ _ _ _ _ _ _ _ _ _ 0 1803 _ HR5.out (by omega) (by omega) (by omega)).mono ?_
   rintro e u' w3 ⟨rfl,rfl,hr,ht⟩
   obtain ⟨c0,c1,c2,c3,c4,c5,c6,f0,f1,f2,f3,f4,f5,f6,l4,l5,l6⟩:=hr.cells
   refine ⟨.tuple #[.agg #[.int .i64 0,.string ⟨#[]⟩,.float .f64 0,.slice none 0 0,.int .i64 0],.int .i64 0,.int .i64 1803],by simp [results,Tryz.results49,go_sem,c0,c1,c2,c3,c4,c5,c6],?_⟩
   obtain ⟨e1,e2⟩:=HCB.out
   rw [TreeR,if_neg (by rw [e1];decide),e1,e2]
   exact ⟨rfl,HB5.out.trans (ht.below HB5.out.size (by simp;omega))⟩
  ·obtain ⟨hcut,hple,hlen⟩:=lex.scanL_cut (l:=s.data.toList) (by rw [her];exact e0) (by rw [her];exact e3)
   rw [hpa] at hcut hple
   rw [list_len] at hple hlen
   have hne:(er != 0) = true:=by simpa using e0
   have hn3:(er == 1803) = false:=by simpa using e3
   have hpaI:(pa:Int) ≤ (s.size:Int):=by omega
   have HCUT:=Lib.hid hcut
   have HER:=Lib.hid her
   have HPA:=Lib.hid hpa
   have HE:=Lib.hid (And.intro e0 e3)
   clear h1 hpa her HRW HLO hcut hlen e0 e3
   have HTK:Hid (Calls Tryz.prog 68 #[.string (s.extract 0 pa)] wc fun e w'=>∃ v2,e = .returned (.tuple #[v2,.int .i64 0,.int .i64 0]) ∧ TRow w' wc.heap.size v2 (pts (envOf s.data.toList)) ∧ Below wc.heap.size wc w'):=by
    have hz:(s.extract 0 pa).size ≤ maxLen:=by
     have h1:(s.extract 0 pa).size = pa:=by simp;omega
     have h2:s.size ≤ maxLen:=HSZ.out
     omega
    refine (HT.out (s.extract 0 pa) wc hz HB5.out).mono ?_
    have hp:=(pts_cut (l:=s.data.toList) (by rw [HER.out];exact HE.out.1) (by rw [HER.out];exact HE.out.2)).1
    have hq:=HPA.out
    rw [hq,← extract_list] at hp
    have hcc:=HCUT.out
    rw [← extract_list] at hcc
    rintro e w' ⟨v2,rfl,g0,-,hb⟩
    rw [← hp,hcc] at g0
    rw [hcc]
    exact ⟨v2,rfl,g0 rfl,hb⟩
   have HPL:Hid (∃ m,(pts (envOf s.data.toList)).length = m + 1 ∧ m ≤ 20000 ∧ (pts (envOf s.data.toList))[m]? = some ⟨0,[],0,pa⟩):=by
    have h1:(envOf s.data.toList).ts.length ≤ 16386:=scanL_len s.data.toList
    have h2:(envOf s.data.toList).lex ≠ 0:=by rw [show (envOf s.data.toList).lex = er from HER.out];exact HE.out.1
    refine ⟨(envOf s.data.toList).ts.length,by rw [pts_len,if_neg h2],by omega,?_⟩
    unfold pts
    rw [if_neg h2,List.getElem?_append_right (Nat.le_refl _),Nat.sub_self]
    have h3:(envOf s.data.toList).lat.toNat = pa:=by
     show (((scanL s.data.toList).2.1:Nat):Int).toNat = pa
     rw [HPA.out];rfl
    rw [h3]
    rfl
   clear HT HSZ HCUT HPA
   go_wp2_with fail
   refine HTK.out.mono ?_
   rintro e wd ⟨v2,rfl,hrow,hb⟩
   obtain ⟨m,hm,hm2,hm3⟩:=HPL.out
   have HLN:=Lib.hid hm
   have HWC:=Lib.hid HR5.out.cells.l6
   obtain ⟨a2,cp2,rfl⟩:=hrow.slice
   rw [hm] at hrow ⊢
   obtain ⟨g,rfl⟩:∃ g,a2 = some ⟨g,0,none⟩:=by
    rcases hrow.cells with ⟨h1,h2⟩ | ⟨g,c,h1,-⟩
    ·rw [h2] at hm;simp at hm
    ·simp only [Value.slice.injEq] at h1;exact ⟨g,h1.1⟩
   obtain ⟨k0,kf,hrow2,hc1,hc2,hbg,hgl⟩:=row_same hrow hm3 hm
   simp only at k0 hrow2
   have HR6:=Lib.hid (HR5.out.turned (Turned.of_below (S := []) hb) (by simp) (by simp) (by simp))
   have HB6:=Lib.hid (HB5.out.trans (hb.mono HB5.out.size))
   have HRW2:=Lib.hid hrow2
   have HBG:=Lib.hid hbg
   have hzz:=hb.size
   clear c0 c1 c2 c3 c4 c5 c6 f0 f1 f2 f3 f4 f5 f6 l4 l5 l6 hb HTK HPL hrow hrow2 hm hm3 HR5 HB5
   obtain ⟨c0,c1,c2,c3,c4,c5,c6,f0,f1,f2,f3,f4,f5,f6,l4,l5,l6⟩:=HR6.out.cells
   unfold maxLen at hc2
   have hiw:IntKind.i64.wrap ((m:Int) + 1 - 1) = (m:Int):=by rw [Int.add_sub_cancel];exact IntWalk.i64_in _ (by omega)
   go_upto_region 8 with fail
   have HR:Hid (RS w s.data.toList (.slice (some ⟨g,0,none⟩) (m + 1) cp2) pa er (wd.setCell ⟨g,m * 4 + 3,none⟩ (.int .i64 pa))):=by
    have ht:Turned [g] wd (wd.setCell ⟨g,m * 4 + 3,none⟩ (.int .i64 pa)):=(Turned.refl _ _).setCell (by simp) _
    have hg:=HBG.out
    have h6:=HR6.out.cells.l6
    have hcc:w.heap.size + 1 + 1 < wc.heap.size:=HWC.out
    refine ⟨HR6.out.turned ht (by simp;omega) (by simp;omega) (by simp;omega),trow_base HRW2.out (by omega),HB6.out.setCell (by simp;omega) _⟩
   clear c0 c1 c2 c3 c4 c5 c6 f0 f1 f2 f3 f4 f5 f6 l4 l5 l6 HR6 HB6 HRW2 HBG k0 kf hc1 hc2 hgl hiw hzz
   generalize (wd.setCell _ _) = wr at HR ⊢
   generalize Value.slice (some ⟨g,0,none⟩) (m + 1) cp2 = vv at HR ⊢
   clear HLN
   have hpat:=HR.out.pat HMX.out
   obtain ⟨c0,c1,c2,c3,c4,c5,c6,f0,f1,f2,f3,f4,f5,f6,l4,l5,l6⟩:=HR.out.res.cells
   obtain ⟨av,cv,rfl⟩:=HR.out.row.slice
   have hcd:(envOf s.data.toList).lex = er:=HER.out
   have HPAT:Hid (PAt (wr.alloc (.cells #[.slice av (pts (envOf s.data.toList)).length cv,.int .i64 0,.int .i64 er,.int .i64 0] 133 (0,0))) wr.heap.size (.slice av (pts (envOf s.data.toList)).length cv) (envOf s.data.toList) st0):=by
    have h:PAt (wr.alloc (.cells #[.slice av (pts (envOf s.data.toList)).length cv,.int .i64 0,.int .i64 (envOf s.data.toList).lex,.int .i64 0] 133 (0,0))) wr.heap.size (.slice av (pts (envOf s.data.toList)).length cv) (envOf s.data.toList) st0:=hpat
    rw [hcd] at h
    exact h
   have HAL:=Lib.hid (((HR.out.alloc (.cells #[.slice av (pts (envOf s.data.toList)).length cv,.int .i64 0,.int .i64 er,.int .i64 0] 133 (0,0)))))
   clear hpat hcd
   generalize (pts (envOf s.data.toList)).length = pl at *
   go_wp2_with fail
   refine (HF.out _ _ _ HPAT.out).mono ?_
   intro e w2 hp
   have hszr:=HR.out.bel.size
   have hsz4:=HR.out.res.cells.l6
   clear c0 c1 c2 c3 c4 c5 c6 f0 f1 f2 f3 f4 f5 f6 l4 l5 l6
   rcases hp with ⟨hcz,t9,a9,n9,S9,rfl,hk,hS,hP,hT⟩ | ⟨hcz,rfl,hT⟩
   ·have HR2:=Lib.hid (HAL.out.1.turned hT (by simp;omega) (by simp;omega) (by simp;omega))
    have HB2:=Lib.hid (HAL.out.2.trans (hT.below (by simp;omega) (by simp;omega)))
    have HTR:Hid ((Tr.mk x.kids (.slice a9 x.kids.length n9) S9).ok w2 ∧ (∀ b ∈ S9,wr.heap.size + 1 ≤ b) ∧ s9.code = 0):=⟨hk,by simpa using hS,hcz⟩
    clear hk hS hP hT hcz HPAT HAL HF
    obtain ⟨c0,c1,c2,c3,c4,c5,c6,f0,f1,f2,f3,f4,f5,f6,l4,l5,l6⟩:=HR2.out.cells
    go_wp2_with fail
    refine leaves_cons (f:=67) (args := #[.pointer (some ⟨w.heap.size,0,none⟩),.pointer (some ⟨w.heap.size + 1,0,none⟩),.pointer (some ⟨w.heap.size + 1 + 1,0,none⟩)]) (by simp) (by simp [go_sem]) ?_
    refine (read1_idle _ _ _ _).mono ?_
    rintro e u' w3 ⟨rfl,rfl,rfl⟩
    have HR6:=Lib.hid (((HR2.out.set4 (by omega) (by omega) (.int .i64 x.kind) (.string ⟨x.text.toArray⟩) (.float .f64 x.num) (.slice a9 x.kids.length n9) (.int .i64 x.at')).set5 (by omega) (by omega) (.int .i64 0)).set6 (by omega) (by omega) (.int .i64 0))
    have HT6:Hid (Turned [w.heap.size,w.heap.size + 1,w.heap.size + 1 + 1] w2 ((((((((w2.setCell _ _).setCell _ _).setCell _ _).setCell _ _).setCell _ _)).setCell _ _).setCell _ _)):=(((((((Turned.refl [w.heap.size,w.heap.size + 1,w.heap.size + 1 + 1] w2).setCell (p:=⟨w.heap.size,0,none⟩) (by simp) (.int .i64 x.kind)).setCell (p:=⟨w.heap.size,1,none⟩) (by simp) (.string ⟨x.text.toArray⟩)).setCell (p:=⟨w.heap.size,2,none⟩) (by simp) (.float .f64 x.num)).setCell (p:=⟨w.heap.size,3,none⟩) (by simp) (.slice a9 x.kids.length n9)).setCell (p:=⟨w.heap.size,4,none⟩) (by simp) (.int .i64 x.at')).setCell (p:=⟨w.heap.size + 1,0,none⟩) (by simp) (.int .i64 0)).setCell (p:=⟨w.heap.size + 1 + 1,0,none⟩) (by simp) (.int .i64 0)
    clear c0 c1 c2 c3 c4 c5 c6 f0 f1 f2 f3 f4 f5 f6 l4 l5 l6 HR2
    generalize (((((((w2.setCell _ _).setCell _ _).setCell _ _).setCell _ _).setCell _ _)).setCell _ _).setCell _ _ = wf at HR6 HT6 ⊢
    obtain ⟨c0,c1,c2,c3,c4,c5,c6,f0,f1,f2,f3,f4,f5,f6,l4,l5,l6⟩:=HR6.out.cells
    refine ⟨.tuple #[.agg #[.int .i64 x.kind,.string ⟨x.text.toArray⟩,.float .f64 x.num,.slice a9 x.kids.length n9,.int .i64 x.at'],.int .i64 0,.int .i64 0],by simp [results,Tryz.results49,go_sem,c0,c1,c2,c3,c4,c5,c6],?_⟩
    obtain ⟨hk,hS,hcz⟩:=HTR.out
    rw [TreeR,if_pos hcz]
    exact ⟨a9,n9,S9,rfl,hk.turned HT6.out (fun b hb=>by have:=hS b hb;simp;omega),fun b hb=>by have:=hS b hb;omega,HB2.out.trans (HT6.out.below HB2.out.size (by simp;omega))⟩
   ·have HR2:=Lib.hid (HAL.out.1.turned hT (by simp;omega) (by simp;omega) (by simp;omega))
    have HB2:=Lib.hid (HAL.out.2.trans (hT.below (by simp;omega) (by simp;omega)))
    have HCZ:=Lib.hid hcz
    clear hT hcz HPAT HAL HF
    go_wp2_with fail
    refine leaves_cons (f:=67) (args := #[.pointer (some ⟨w.heap.size,0,none⟩),.pointer (some ⟨w.heap.size + 1,0,none⟩),.pointer (some ⟨w.heap.size + 1 + 1,0,none⟩)]) (by simp) (by simp [go_sem]) ?_
    refine (read1_panic _ _ _ _ _ _ _ _ _ _ s9.bad s9.code _ HR2.out (by omega) (by omega) (by omega)).mono ?_
    rintro e u' w3 ⟨rfl,rfl,hr,ht⟩
    obtain ⟨c0,c1,c2,c3,c4,c5,c6,f0,f1,f2,f3,f4,f5,f6,l4,l5,l6⟩:=hr.cells
    refine ⟨.tuple #[.agg #[.int .i64 0,.string ⟨#[]⟩,.float .f64 0,.slice none 0 0,.int .i64 0],.int .i64 s9.bad,.int .i64 s9.code],by simp [results,Tryz.results49,go_sem,c0,c1,c2,c3,c4,c5,c6],?_⟩
    rw [TreeR,if_neg HCZ.out]
    exact ⟨rfl,HB2.out.trans (ht.below HB2.out.size (by simp;omega))⟩
end Go.Proofs.YtmfpmandkhiknaaGreatDoor.qar
namespace Go.Proofs.YtmfpmandkhiknaaGreatDoor.qar
open par
open Go.RowKit
open heap
open lex (Tk TRow TkAt run_store_float add0 scanL Tokens_any tab_below)
open many (envOf st0 recipeR)
open num (list_len)
set_option maxRecDepth 100000
attribute [local go_sem] run_store_float field_tok0 field_tok1 field_tok3
theorem ms_start (l:List UInt8):ms (envOf l) st0 ≤ 100001:=by
 have h1:(envOf l).ts.length ≤ 16386:=scanL_len l
 exact ms_le (by omega)
theorem len_start (l:List UInt8):(envOf l).ts.length ≤ 100000:=by
 have h1:(envOf l).ts.length ≤ 16386:=scanL_len l
 omega
set_option maxHeartbeats 1000000 in
theorem pScript_any (s:ByteArray) (w:World) (hs:s.size ≤ maxLen) (htab:Lib.TabIs Tryz.prog w "strings.asciiSpace" .u8 Lib.asciiSpaceTab) (hmx:∃ m:Int,w.cell? ⟨1,0,none⟩ = some (.int .i64 m)) (f m:Nat) (kf:List Nd) (s9:PS) (hf:16 * 100001 + 2 ≤ f) (hm:100002 ≤ m)
  (hr:stmtsR (envOf s.data.toList) f m [] st0 = some (kf,s9)) :
  Calls Tryz.prog 29 #[.string s] w (TreeR (.mk 8 [] 0 kf 0) s9 w):=by
 have HRD:Hid (∀ W,Below w.heap.size w W → Calls Tryz.prog 49 #[.string s,.func (.func 54) #[] #[]] W (TreeR (.mk 8 [] 0 kf 0) s9 W)):=by
  intro W hb
  have h0:=ms_start s.data.toList
  refine read_script s W hs (tab_below htab hb) ?_ _ _ (fun p v W h=>script_any f m st0 kf s9 W (by omega) (by omega) hr (len_start _) h) (fun h => ?_)
  ·obtain ⟨q,hq⟩:=hmx
   exact ⟨q,by rw [hb.cell (p:=⟨1,0,none⟩) (World.block_lt_of_cell? w ⟨1,0,none⟩ hq)];exact hq⟩
  ·rw [← list_len] at h
   rw [long_env h] at hr
   cases m with
   | zero=>rw [stmtsR] at hr;cases hr
   | succ m =>
    rw [stmtsR,if_neg (by decide),if_pos (by decide)] at hr
    cases hr
    decide
 clear hr htab hmx
 go_enter Tryz.func29,Tryz.ntmps29
 go_wp2_with fail
 have HB0:Hid (Below w.heap.size w (w.alloc (ndO zero (.slice none 0 0)))):=(Below.refl _ _).alloc (Nat.le_refl _) _
 have HZ0:Hid ((w.alloc (ndO zero (.slice none 0 0))).heap[w.heap.size]? = some (ndO zero (.slice none 0 0))):=blk_new _ _
 have hsz:(w.alloc (ndO zero (.slice none 0 0))).heap.size = w.heap.size + 1:=by simp
 change Calls _ _ _ (w.alloc (ndO zero (.slice none 0 0))) _
 generalize w.alloc (ndO zero (.slice none 0 0)) = w1 at *
 refine (HRD.out _ HB0.out).mono ?_
 intro e w2 hp
 rw [TreeR] at hp
 by_cases hc:s9.code = 0
 ·rw [if_pos hc] at hp
  obtain ⟨a,n,S,rfl,hk,hS,hb⟩:=hp
  have HZ:Hid (w2.heap[w.heap.size]? = some (ndO zero (.slice none 0 0))):=blk_below HZ0.out hb
  have HBB:=Lib.hid (HB0.out.trans (hb.mono HB0.out.size))
  have HKS:Hid ((Tr.mk (Nd.mk 8 [] 0 kf 0).kids (.slice a (Nd.mk 8 [] 0 kf 0).kids.length n) S).ok w2 ∧ ∀ b ∈ S,w.heap.size + 1 ≤ b):=⟨hk,fun b hb=>by have:=hS b hb;omega⟩
  have HC:=Lib.hid hc
  clear hk hS hb hc HB0 HZ0 HRD
  have k0:=blk_cell (HZ.out) 0
  have k1:=blk_cell (HZ.out) 1
  have k2:=blk_cell (HZ.out) 2
  have k3:=blk_cell (HZ.out) 3
  have k4:=blk_cell (HZ.out) 4
  have kf0:=blk_free (HZ.out) 0
  have kf1:=blk_free (HZ.out) 1
  have kf2:=blk_free (HZ.out) 2
  have kf3:=blk_free (HZ.out) 3
  have kf4:=blk_free (HZ.out) 4
  have kl:=blk_lt (HZ.out)
  simp only [List.getElem?_toArray,List.getElem?_cons_zero,List.getElem?_cons_succ] at k0 k1 k2 k3 k4
  go_wp2_with fail
  have h5:=res5 HZ.out (.int .i64 (Nd.mk 8 [] 0 kf 0).kind) (.string ⟨(Nd.mk 8 [] 0 kf 0).text.toArray⟩) (.float .f64 (Nd.mk 8 [] 0 kf 0).num) (.slice a (Nd.mk 8 [] 0 kf 0).kids.length n) (.int .i64 (Nd.mk 8 [] 0 kf 0).at')
  have ht:=turned5 w2 w.heap.size (.int .i64 (Nd.mk 8 [] 0 kf 0).kind) (.string ⟨(Nd.mk 8 [] 0 kf 0).text.toArray⟩) (.float .f64 (Nd.mk 8 [] 0 kf 0).num) (.slice a (Nd.mk 8 [] 0 kf 0).kids.length n) (.int .i64 (Nd.mk 8 [] 0 kf 0).at')
  generalize (((((w2.setCell _ _).setCell _ _).setCell _ _).setCell _ _).setCell _ _) = wf at h5 ht ⊢
  clear k0 k1 k2 k3 k4 kf0 kf1 kf2 kf3 kf4 kl
  have k0:=blk_cell (h5) 0
  have k1:=blk_cell (h5) 1
  have k2:=blk_cell (h5) 2
  have k3:=blk_cell (h5) 3
  have k4:=blk_cell (h5) 4
  have kf0:=blk_free (h5) 0
  have kf1:=blk_free (h5) 1
  have kf2:=blk_free (h5) 2
  have kf3:=blk_free (h5) 3
  have kf4:=blk_free (h5) 4
  have kl:=blk_lt (h5)
  simp only [List.getElem?_toArray,List.getElem?_cons_zero,List.getElem?_cons_succ] at k0 k1 k2 k3 k4
  clear h5
  refine bodyPost_ret (v:=.tuple #[.agg #[.int .i64 (Nd.mk 8 [] 0 kf 0).kind,.string ⟨(Nd.mk 8 [] 0 kf 0).text.toArray⟩,.float .f64 (Nd.mk 8 [] 0 kf 0).num,.slice a (Nd.mk 8 [] 0 kf 0).kids.length n,.int .i64 (Nd.mk 8 [] 0 kf 0).at'],.int .i64 0,.int .i64 0]) (by simp [results,Tryz.results29,go_sem,k0,k1,k2,k3,k4]) rfl ?_
  rw [TreeR,if_pos HC.out]
  exact ⟨a, n, S, rfl, HKS.out.1.turned ht (fun b hb hm => by have := HKS.out.2 b hb; have : b = w.heap.size := by simpa using hm
                                                              omega),fun b hb=>Nat.le_trans (by omega) (HKS.out.2 b hb),HBB.out.trans (ht.below HBB.out.size (by simp))⟩
 ·rw [if_neg hc] at hp
  obtain ⟨rfl,hb⟩:=hp
  have HZ:Hid (w2.heap[w.heap.size]? = some (ndO zero (.slice none 0 0))):=blk_below HZ0.out hb
  have HBB:=Lib.hid (HB0.out.trans (hb.mono HB0.out.size))
  have HC:=Lib.hid hc
  clear hb hc HB0 HZ0 HRD
  have k0:=blk_cell (HZ.out) 0
  have k1:=blk_cell (HZ.out) 1
  have k2:=blk_cell (HZ.out) 2
  have k3:=blk_cell (HZ.out) 3
  have k4:=blk_cell (HZ.out) 4
  have kf0:=blk_free (HZ.out) 0
  have kf1:=blk_free (HZ.out) 1
  have kf2:=blk_free (HZ.out) 2
  have kf3:=blk_free (HZ.out) 3
  have kf4:=blk_free (HZ.out) 4
  have kl:=blk_lt (HZ.out)
  simp only [List.getElem?_toArray,List.getElem?_cons_zero,List.getElem?_cons_succ] at k0 k1 k2 k3 k4
  go_wp2_with fail
  have h5:=res5 HZ.out (.int .i64 zero.kind) (.string ⟨zero.text.toArray⟩) (.float .f64 zero.num) (.slice none 0 0) (.int .i64 zero.at')
  have ht:=turned5 w2 w.heap.size (.int .i64 zero.kind) (.string ⟨zero.text.toArray⟩) (.float .f64 zero.num) (.slice none 0 0) (.int .i64 zero.at')
  generalize (((((w2.setCell _ _).setCell _ _).setCell _ _).setCell _ _).setCell _ _) = wf at h5 ht ⊢
  clear k0 k1 k2 k3 k4 kf0 kf1 kf2 kf3 kf4 kl
  have k0:=blk_cell (h5) 0
  have k1:=blk_cell (h5) 1
  have k2:=blk_cell (h5) 2
  have k3:=blk_cell (h5) 3
  have k4:=blk_cell (h5) 4
  have kf0:=blk_free (h5) 0
  have kf1:=blk_free (h5) 1
  have kf2:=blk_free (h5) 2
  have kf3:=blk_free (h5) 3
  have kf4:=blk_free (h5) 4
  have kl:=blk_lt (h5)
  simp only [List.getElem?_toArray,List.getElem?_cons_zero,List.getElem?_cons_succ] at k0 k1 k2 k3 k4
  clear h5
  refine bodyPost_ret (v:=.tuple #[.agg #[.int .i64 zero.kind,.string ⟨zero.text.toArray⟩,.float .f64 zero.num,.slice none 0 0,.int .i64 zero.at'],.int .i64 s9.bad,.int .i64 s9.code]) (by simp [results,Tryz.results29,go_sem,k0,k1,k2,k3,k4]) rfl ?_
  rw [TreeR,if_neg HC.out]
  exact ⟨rfl,HBB.out.trans (ht.below HBB.out.size (by simp))⟩
set_option maxHeartbeats 1000000 in
theorem pRecipe_any (s:ByteArray) (w:World) (hs:s.size ≤ maxLen) (htab:Lib.TabIs Tryz.prog w "strings.asciiSpace" .u8 Lib.asciiSpaceTab) (hmx:∃ m:Int,w.cell? ⟨1,0,none⟩ = some (.int .i64 m)) (f n m:Nat) (x:Nd) (s9:PS) (hf:16 * 100001 + 8 ≤ f) (hn:100001 < n) (hm:100002 ≤ m)
  (hr:recipeR (envOf s.data.toList) f n m st0 = some (x,s9)) :
  Calls Tryz.prog 24 #[.string s] w (TreeR x s9 w):=by
 rw [recipeR,stageR_sT] at hr
 cases h1:stageR (envOf s.data.toList) f n st0 with
 | none=>rw [h1] at hr;cases hr
 | some r =>
 obtain ⟨x1,s3⟩:=r
 rw [h1] at hr
 simp only at hr
 cases h2:stagesR (envOf s.data.toList) f n m [x1] s3 with
 | none=>rw [h2] at hr;cases hr
 | some r =>
 obtain ⟨kf,s4⟩:=r
 rw [h2] at hr
 cases hr
 have HRD:Hid (∀ W,Below w.heap.size w W → Calls Tryz.prog 49 #[.string s,.func (.func 50) #[] #[]] W (TreeR (.mk 1 [] 0 kf (tk (envOf s.data.toList) st0).at') s9 W)):=by
  intro W hb
  have h0:=ms_start s.data.toList
  refine (read_recipe s W hs (tab_below htab hb) ?_ (.mk 1 [] 0 kf (pn (envOf s.data.toList) st0).at') s9 (fun p v W h=>recipe_any f n m st0 x1 s3 kf s9 W (by omega) (by omega) (by omega) h1 h2 (len_start _) h) (fun h => ?_)).mono ?_
  ·obtain ⟨q,hq⟩:=hmx
   exact ⟨q,by rw [hb.cell (p:=⟨1,0,none⟩) (World.block_lt_of_cell? w ⟨1,0,none⟩ hq)];exact hq⟩
  ·rw [← list_len] at h
   rw [long_env h] at h1 h2
   rw [stageR,if_neg (by decide)] at h1
   cases h1
   cases m with
   | zero=>rw [stagesR] at h2;cases h2
   | succ m =>
    rw [stagesR,if_pos (by decide)] at h2
    cases h2
    decide
  ·intro e w' hp
   rw [TreeR] at hp ⊢
   by_cases hc:s9.code = 0
   ·have hw:isW (envOf s.data.toList) wFrom st0 = true:=Classical.byContradiction fun hw=>by
     rw [stageR,if_neg hw] at h1
     cases h1
     have:=stagesR_stk _ _ _ _ _ _ _ h2 (wrong_code _ _)
     exact absurd (this.1.symm.trans hc) (wrong_code _ _)
    have hk:=(isW_kind hw).1
    have he:=(pn_tk (E:=envOf s.data.toList) (s:=st0) rfl (by rw [hk];decide)).1
    rw [if_pos hc] at hp ⊢
    rw [he] at hp
    exact hp
   ·rw [if_neg hc] at hp ⊢
    exact hp
 clear htab hmx h1 h2
 generalize (tk (envOf s.data.toList) st0).at' = a0 at *
 go_enter Tryz.func24,Tryz.ntmps24
 go_wp2_with fail
 have HB0:Hid (Below w.heap.size w (w.alloc (ndO zero (.slice none 0 0)))):=(Below.refl _ _).alloc (Nat.le_refl _) _
 have HZ0:Hid ((w.alloc (ndO zero (.slice none 0 0))).heap[w.heap.size]? = some (ndO zero (.slice none 0 0))):=blk_new _ _
 have hsz:(w.alloc (ndO zero (.slice none 0 0))).heap.size = w.heap.size + 1:=by simp
 change Calls _ _ _ (w.alloc (ndO zero (.slice none 0 0))) _
 generalize w.alloc (ndO zero (.slice none 0 0)) = w1 at *
 refine (HRD.out _ HB0.out).mono ?_
 intro e w2 hp
 rw [TreeR] at hp
 by_cases hc:s9.code = 0
 ·rw [if_pos hc] at hp
  obtain ⟨a,n,S,rfl,hk,hS,hb⟩:=hp
  have HZ:Hid (w2.heap[w.heap.size]? = some (ndO zero (.slice none 0 0))):=blk_below HZ0.out hb
  have HBB:=Lib.hid (HB0.out.trans (hb.mono HB0.out.size))
  have HKS:Hid ((Tr.mk (Nd.mk 1 [] 0 kf a0).kids (.slice a (Nd.mk 1 [] 0 kf a0).kids.length n) S).ok w2 ∧ ∀ b ∈ S,w.heap.size + 1 ≤ b):=⟨hk,fun b hb=>by have:=hS b hb;omega⟩
  have HC:=Lib.hid hc
  clear hk hS hb hc HB0 HZ0 HRD
  have k0:=blk_cell (HZ.out) 0
  have k1:=blk_cell (HZ.out) 1
  have k2:=blk_cell (HZ.out) 2
  have k3:=blk_cell (HZ.out) 3
  have k4:=blk_cell (HZ.out) 4
  have kf0:=blk_free (HZ.out) 0
  have kf1:=blk_free (HZ.out) 1
  have kf2:=blk_free (HZ.out) 2
  have kf3:=blk_free (HZ.out) 3
  have kf4:=blk_free (HZ.out) 4
  have kl:=blk_lt (HZ.out)
  simp only [List.getElem?_toArray,List.getElem?_cons_zero,List.getElem?_cons_succ] at k0 k1 k2 k3 k4
  go_wp2_with fail
  have h5:=res5 HZ.out (.int .i64 (Nd.mk 1 [] 0 kf a0).kind) (.string ⟨(Nd.mk 1 [] 0 kf a0).text.toArray⟩) (.float .f64 (Nd.mk 1 [] 0 kf a0).num) (.slice a (Nd.mk 1 [] 0 kf a0).kids.length n) (.int .i64 (Nd.mk 1 [] 0 kf a0).at')
  have ht:=turned5 w2 w.heap.size (.int .i64 (Nd.mk 1 [] 0 kf a0).kind) (.string ⟨(Nd.mk 1 [] 0 kf a0).text.toArray⟩) (.float .f64 (Nd.mk 1 [] 0 kf a0).num) (.slice a (Nd.mk 1 [] 0 kf a0).kids.length n) (.int .i64 (Nd.mk 1 [] 0 kf a0).at')
  generalize (((((w2.setCell _ _).setCell _ _).setCell _ _).setCell _ _).setCell _ _) = wf at h5 ht ⊢
  clear k0 k1 k2 k3 k4 kf0 kf1 kf2 kf3 kf4 kl
  have k0:=blk_cell (h5) 0
  have k1:=blk_cell (h5) 1
  have k2:=blk_cell (h5) 2
  have k3:=blk_cell (h5) 3
  have k4:=blk_cell (h5) 4
  have kf0:=blk_free (h5) 0
  have kf1:=blk_free (h5) 1
  have kf2:=blk_free (h5) 2
  have kf3:=blk_free (h5) 3
  have kf4:=blk_free (h5) 4
  have kl:=blk_lt (h5)
  simp only [List.getElem?_toArray,List.getElem?_cons_zero,List.getElem?_cons_succ] at k0 k1 k2 k3 k4
  clear h5
  refine bodyPost_ret (v:=.tuple #[.agg #[.int .i64 (Nd.mk 1 [] 0 kf a0).kind,.string ⟨(Nd.mk 1 [] 0 kf a0).text.toArray⟩,.float .f64 (Nd.mk 1 [] 0 kf a0).num,.slice a (Nd.mk 1 [] 0 kf a0).kids.length n,.int .i64 (Nd.mk 1 [] 0 kf a0).at'],.int .i64 0,.int .i64 0]) (by simp [results,Tryz.results24,go_sem,k0,k1,k2,k3,k4]) rfl ?_
  rw [TreeR,if_pos HC.out]
  exact ⟨a, n, S, rfl, HKS.out.1.turned ht (fun b hb hm => by have := HKS.out.2 b hb; have : b = w.heap.size := by simpa using hm
                                                              omega),fun b hb=>Nat.le_trans (by omega) (HKS.out.2 b hb),HBB.out.trans (ht.below HBB.out.size (by simp))⟩
 ·rw [if_neg hc] at hp
  obtain ⟨rfl,hb⟩:=hp
  have HZ:Hid (w2.heap[w.heap.size]? = some (ndO zero (.slice none 0 0))):=blk_below HZ0.out hb
  have HBB:=Lib.hid (HB0.out.trans (hb.mono HB0.out.size))
  have HC:=Lib.hid hc
  clear hb hc HB0 HZ0 HRD
  have k0:=blk_cell (HZ.out) 0
  have k1:=blk_cell (HZ.out) 1
  have k2:=blk_cell (HZ.out) 2
  have k3:=blk_cell (HZ.out) 3
  have k4:=blk_cell (HZ.out) 4
  have kf0:=blk_free (HZ.out) 0
  have kf1:=blk_free (HZ.out) 1
  have kf2:=blk_free (HZ.out) 2
  have kf3:=blk_free (HZ.out) 3
  have kf4:=blk_free (HZ.out) 4
  have kl:=blk_lt (HZ.out)
  simp only [List.getElem?_toArray,List.getElem?_cons_zero,List.getElem?_cons_succ] at k0 k1 k2 k3 k4
  go_wp2_with fail
  have h5:=res5 HZ.out (.int .i64 zero.kind) (.string ⟨zero.text.toArray⟩) (.float .f64 zero.num) (.slice none 0 0) (.int .i64 zero.at')
  have ht:=turned5 w2 w.heap.size (.int .i64 zero.kind) (.string ⟨zero.text.toArray⟩) (.float .f64 zero.num) (.slice none 0 0) (.int .i64 zero.at')
  generalize (((((w2.setCell _ _).setCell _ _).setCell _ _).setCell _ _).setCell _ _) = wf at h5 ht ⊢
  clear k0 k1 k2 k3 k4 kf0 kf1 kf2 kf3 kf4 kl
  have k0:=blk_cell (h5) 0
  have k1:=blk_cell (h5) 1
  have k2:=blk_cell (h5) 2
  have k3:=blk_cell (h5) 3
  have k4:=blk_cell (h5) 4
  have kf0:=blk_free (h5) 0
  have kf1:=blk_free (h5) 1
  have kf2:=blk_free (h5) 2
  have kf3:=blk_free (h5) 3
  have kf4:=blk_free (h5) 4
  have kl:=blk_lt (h5)
  simp only [List.getElem?_toArray,List.getElem?_cons_zero,List.getElem?_cons_succ] at k0 k1 k2 k3 k4
  clear h5
  refine bodyPost_ret (v:=.tuple #[.agg #[.int .i64 zero.kind,.string ⟨zero.text.toArray⟩,.float .f64 zero.num,.slice none 0 0,.int .i64 zero.at'],.int .i64 s9.bad,.int .i64 s9.code]) (by simp [results,Tryz.results24,go_sem,k0,k1,k2,k3,k4]) rfl ?_
  rw [TreeR,if_neg HC.out]
  exact ⟨rfl,HBB.out.trans (ht.below HBB.out.size (by simp))⟩
end Go.Proofs.YtmfpmandkhiknaaGreatDoor.qar
