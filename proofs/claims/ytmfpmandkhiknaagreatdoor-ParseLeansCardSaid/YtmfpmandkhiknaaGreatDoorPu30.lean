/-
  Proved: the tokens of a text as the program's parser wants them (plain). Conditions: as each theorem says. No program is in sight.
  Proved: what read of the program's parser returns. Conditions: as each theorem says.
-/
import Derived.Test.YtmfpmandkhiknaaGreatDoorPu21
import Derived.Test.YtmfpmandkhiknaaGreatDoorPu6
import Derived.Test.YtmfpmandkhiknaaGreatDoorPu8
import Derived.Test.YtmfpmandkhiknaaGreatDoorPu20
import Derived.Test.YtmfpmandkhiknaaGreatDoorPu29
set_option linter.unusedVariables false
set_option linter.unusedSimpArgs false
namespace Go.Proofs.YtmfpmandkhiknaaGreatDoor.qar
open par lex
open many (envOf st0)
open flt (isD)
set_option maxRecDepth 100000
theorem run_all (p:UInt8 → Bool):∀ (t:List UInt8),∀ c ∈ t.take (runB p t),p c = true
 | [],c,h=>by simp at h
 | b :: r,c,h=>by
  unfold runB at h
  rw [List.takeWhile_cons] at h
  cases hb:p b with
  | false=>rw [hb] at h;simp at h
  | true =>
   rw [hb] at h
   simp only [↓reduceIte,List.length_cons,List.take_succ_cons] at h
   rcases List.mem_cons.1 h with rfl | h
   ·exact hb
   ·exact run_all p r c h
theorem tok_txt {t:List UInt8} {x:Int × List UInt8 × Nat × Nat} (h:tok t = .ok x) (hk:x.1 = 1 ∨ x.1 = 4):(32:UInt8) ∉ x.2.1 ∧ x.2.1.length ≤ 32:=by
 unfold tok at h
 split at h
 ·split at h
  ·cases h
  ·rename_i hn
   cases h
   refine ⟨fun hm => ?_,?_⟩
   ·have:=run_all wordB t 32 hm
    exact absurd this (by decide)
   ·simp only
    rw [List.length_take]
    omega
 ·split at h
  ·split at h
   ·cases h
   ·split at h
    ·cases h
    ·cases h
     rcases hk with hk | hk <;> simp at hk
  ·split at h
   ·split at h
    ·cases h
    ·split at h
     ·cases h
     ·cases h
      rcases hk with hk | hk <;> simp at hk
   ·split at h
    ·cases h
     exact ⟨by decide,by decide⟩
    ·split at h
     ·rename_i hs
      cases h
      refine ⟨fun hm => ?_,by simp⟩
      simp only [List.mem_singleton] at hm
      rw [← hm] at hs
      exact absurd hs (by decide)
     ·cases h
theorem scan_txt:∀ (f:Nat) (t:List UInt8) (a:Nat),∀ k ∈ (scanF f t a).1,(k.kind = 1 ∨ k.kind = 4) → (32:UInt8) ∉ k.text ∧ k.text.length ≤ 32
 | 0,t,a,k,h,_=>by simp [scanF] at h
 | f + 1,t,a,k,h,hk=>by
  rw [scanF] at h
  split at h
  ·simp only [List.mem_singleton] at h
   subst h
   rcases hk with hk | hk <;> simp at hk
  ·split at h
   ·simp at h
   ·rename_i x hx
    rcases List.mem_cons.1 h with rfl | h
    ·exact tok_txt hx hk
    ·exact scan_txt f _ _ k h hk
theorem scan_bad:∀ (f:Nat) (t:List UInt8) (a:Nat),(scanF f t a).2.2 ≠ 0 → ∀ k ∈ (scanF f t a).1,k.kind ≠ 0
 | 0,t,a,h0,k,h=>by simp [scanF] at h
 | f + 1,t,a,h0,k,h=>by
  rw [scanF] at h h0
  split at h
  ·rename_i ht
   rw [if_pos ht] at h0
   exact absurd rfl h0
  ·rename_i ht
   rw [if_neg ht] at h0
   split at h
   ·simp at h
   ·rename_i x hx
    rw [hx] at h0
    rcases List.mem_cons.1 h with rfl | h
    ·exact tok_kind hx
    ·exact scan_bad f _ _ h0 k h
theorem scan_good:∀ (f:Nat) (t:List UInt8) (a:Nat),t.length < f → (scanF f t a).2.2 = 0 → ∃ ts x,(scanF f t a).1 = ts ++ [x] ∧ x.kind = 0
 | 0,t,a,hf,_=>by omega
 | f + 1,t,a,hf,h=>by
  rw [scanF] at h ⊢
  by_cases ht:t = []
  ·rw [if_pos ht]
   exact ⟨[],_,rfl,rfl⟩
  ·rw [if_neg ht] at h ⊢
   cases hx:tok t with
   | error e =>
    rw [hx] at h
    exact absurd h (tok_err hx)
   | ok x =>
    rw [hx] at h
    have hl:=tok_len ht hx
    obtain ⟨ts,y,h1,h2⟩:=scan_good f ((t.drop x.2.2.2).drop (skp false (t.drop x.2.2.2))) (a + x.2.2.2 + skp false (t.drop x.2.2.2)) (by
     rw [List.length_drop,List.length_drop];omega) h
    exact ⟨_ :: ts,y,by simp only;rw [h1];rfl,h2⟩
theorem env_ok (l:List UInt8):EOk (envOf l):=by
 refine ⟨fun h => ?_,fun h => ?_,?_⟩
 ·unfold envOf scanL at h ⊢
  simp only at h ⊢
  split at h
  ·rename_i hb;rw [if_pos hb];intro t ht;cases ht
  ·rename_i hb;rw [if_neg hb];exact scan_bad _ _ _ h
 ·unfold envOf scanL at h ⊢
  simp only at h ⊢
  split at h
  ·exact absurd h (by decide)
  ·rename_i hb;rw [if_neg hb];exact scan_good _ _ _ (by rw [List.length_drop];omega) h
 ·unfold envOf scanL
  simp only
  split
  ·intro t ht;cases ht
  ·exact scan_txt _ _ _
theorem pts_good {l:List UInt8} (h:(scanL l).2.2 = 0):pts (envOf l) = (scanL l).1:=by
 unfold pts envOf
 rw [if_pos h]
theorem pts_cut {l:List UInt8} (h:(scanL l).2.2 ≠ 0) (h3:(scanL l).2.2 ≠ 1803):pts (envOf l) = (scanL (l.take (scanL l).2.1)).1 ∧ (scanL (l.take (scanL l).2.1)).2 = (0,0):=by
 obtain ⟨h1,-,-⟩:=scanL_cut h h3
 rw [h1]
 unfold pts envOf
 rw [if_neg h]
 exact ⟨rfl,rfl⟩
theorem tok_not3 {t:List UInt8} {e:Int} (h:tok t = .error e):e ≠ 1803:=by
 unfold tok at h
 repeat' split at h
 all_goals (cases h;try decide)
theorem scan_not3:∀ (f:Nat) (t:List UInt8) (a:Nat),(scanF f t a).2.2 ≠ 1803
 | 0,t,a=>by rw [scanF];decide
 | f + 1,t,a=>by
  rw [scanF]
  split
  ·exact fun h=>by simp at h
  ·split
   ·rename_i e he;exact tok_not3 he
   ·exact scan_not3 f _ _
theorem long_iff (l:List UInt8):(scanL l).2.2 = 1803 ↔ 16384 < l.length:=by
 unfold scanL
 split
 ·rename_i h;exact ⟨fun _=>h,fun _=>rfl⟩
 ·rename_i h;exact ⟨fun h2=>absurd h2 (scan_not3 _ _ _),fun h2=>absurd h2 h⟩
theorem long_env {l:List UInt8} (h:16384 < l.length):envOf l = ⟨[],0,1803⟩:=by
 unfold envOf scanL
 rw [if_pos h]
 rfl
end Go.Proofs.YtmfpmandkhiknaaGreatDoor.qar
namespace Go.Proofs.YtmfpmandkhiknaaGreatDoor.qar
open par
open Go.RowKit
open heap
open lex (Tk TRow TkAt run_store_float add0 scanL Tokens_any tab_below)
open many (envOf st0)
open num (list_len)
set_option maxRecDepth 100000
attribute [local go_sem] run_store_float field_tok0 field_tok1 field_tok3
def TokR (l:List UInt8) (w:World) (e:Ending) (w':World):Prop:=∃ v,e = .returned (.tuple #[v,.int .i64 (scanL l).2.1,.int .i64 (scanL l).2.2]) ∧ ((scanL l).2.2 = 0 → TRow w' w.heap.size v (scanL l).1) ∧ ((scanL l).2.2 ≠ 0 → v = .slice none 0 0) ∧ Below w.heap.size w w'
theorem Tok_all (s:ByteArray) (w:World) (hs:s.size ≤ maxLen) (htab:Lib.TabIs Tryz.prog w "strings.asciiSpace" .u8 Lib.asciiSpaceTab):Calls Tryz.prog 68 #[.string s] w (TokR s.data.toList w):=by
 by_cases h:16384 < s.size
 ·unfold maxLen at hs
  have hd:decide (16384 < (s.size:Int)) = true:=decide_eq_true (by omega)
  have HL:Hid (scanL s.data.toList = ([],0,1803)):=by
   unfold Hid scanL;rw [if_pos (by rw [list_len];exact h)]
  go_enter Tryz.func68,Tryz.ntmps68
  go_wp2_with fail
  refine bodyPost_ret (v:=.tuple #[.slice none 0 0,.int .i64 0,.int .i64 1803]) (by simp [results,Tryz.results68,go_sem]) rfl ?_
  unfold TokR
  rw [HL.out]
  exact ⟨_,rfl,fun h=>absurd h (by decide),fun _=>rfl,Below.refl _ _⟩
 ·exact Tokens_any s w (by omega) htab
structure RS (w:World) (l:List UInt8) (v:Value) (pa er:Int) (wr:World):Prop where
 res:ResAt wr w.heap.size (w.heap.size + 1) (w.heap.size + 1 + 1) (.int .i64 0) (.string ⟨#[]⟩) (.float .f64 0) (.slice none 0 0) (.int .i64 0) (.int .i64 pa) (.int .i64 er)
 row:TRow wr (w.heap.size + 1 + 1 + 1) v (pts (envOf l))
 bel:Below w.heap.size w wr
theorem pts_pos (l:List UInt8):0 < (pts (envOf l)).length ∧ (pts (envOf l)).length ≤ 20000:=by
 have h1:=scanL_len l
 have h1:(envOf l).ts.length ≤ 16386:=h1
 rw [pts_len]
 split
 ·rename_i h
  obtain ⟨ts,t,h2,-⟩:=(env_ok l).good h
  have:=congrArg List.length h2
  simp at this
  omega
 ·omega
theorem RS.pat {w:World} {l:List UInt8} {v:Value} {pa er:Int} {wr:World} (h:RS w l v pa er wr) (hmx:∃ m:Int,w.cell? ⟨1,0,none⟩ = some (.int .i64 m)):PAt (wr.alloc (pO v (envOf l) st0)) wr.heap.size v (envOf l) st0:=by
 obtain ⟨m,hm⟩:=hmx
 have hp:=pts_pos l
 refine ⟨blk_new _ _,trow_base (h.row.below ((Below.refl _ _).alloc (Nat.le_refl _) _)) (Nat.zero_le _),by omega,hp.1,Int.natCast_nonneg _,env_ok l,rfl,m,?_⟩
 have hb:=h.bel.alloc h.bel.size (pO v (envOf l) st0)
 rw [hb.cell (p:=⟨1,0,none⟩) (World.block_lt_of_cell? w ⟨1,0,none⟩ hm)]
 exact hm
theorem RS.alloc {w:World} {l:List UInt8} {v:Value} {pa er:Int} {wr:World} (h:RS w l v pa er wr) (o:Obj):ResAt (wr.alloc o) w.heap.size (w.heap.size + 1) (w.heap.size + 1 + 1) (.int .i64 0) (.string ⟨#[]⟩) (.float .f64 0) (.slice none 0 0) (.int .i64 0) (.int .i64 pa) (.int .i64 er) ∧ Below w.heap.size w (wr.alloc o):=
 ⟨h.res.alloc o,h.bel.alloc h.bel.size o⟩
theorem extract_list (s:ByteArray) (n:Nat):(s.extract 0 n).data.toList = s.data.toList.take n:=by
 rw [ByteArray.data_extract,Array.toList_extract]
 simp [List.extract]
theorem row_same {w:World} {base m c g:Nat} {ts:List Tk} {t:Tk} (h:TRow w base (.slice (some ⟨g,0,none⟩) (m + 1) c) ts) (ht:ts[m]? = some t) (hl:ts.length = m + 1) :
  w.cell? ⟨g,m * 4 + 3,none⟩ = some (.int .i64 t.at') ∧ w.frozen? ⟨g,m * 4 + 3,none⟩ = false ∧ TRow (w.setCell ⟨g,m * 4 + 3,none⟩ (.int .i64 t.at')) base (.slice (some ⟨g,0,none⟩) (m + 1) c) ts ∧ m + 1 ≤ c ∧ c ≤ maxLen ∧ base ≤ g ∧ g < w.heap.size:=by
 obtain ⟨hw,h0 | ⟨g',c',cur,hv,h2,h3,h4,h5,h6,h7⟩⟩:=id h
 ·cases h0.1
 ·simp only [Value.slice.injEq,Option.some.injEq,Addr.mk.injEq,and_true,true_and] at hv
  obtain ⟨rfl,-,rfl⟩:=hv
  have hc:w.cell? ⟨g,m * 4 + 3,none⟩ = some (.int .i64 t.at'):=by
   rcases h.cells with ⟨hh,-⟩ | ⟨g2,c2,hv2,-,-,-,-,h8⟩
   ·cases hh
   ·simp only [Value.slice.injEq,Option.some.injEq,Addr.mk.injEq,and_true] at hv2
    obtain ⟨rfl,-⟩:=hv2
    exact (h8 m t ht).2.2.2
  refine ⟨hc,blk_free h3 _,?_,by omega,h5,h2,blk_lt h3⟩
  refine lex.trow_kept h (fun b o hb ho => ?_)
  have e:b = g:=by simpa [Value.ownBlock] using hb.symm
  subst e
  rw [h3] at ho
  cases ho
  rw [blk_set h3]
  rw [blk_cell h3] at hc
  have e2:cur.setIfInBounds (m * 4 + 3) (.int .i64 t.at') = cur:=by
   apply Array.ext_getElem?
   intro i
   rw [Array.getElem?_setIfInBounds]
   split
   ·rename_i e
    subst e
    split
    ·exact hc.symm
    ·rename_i hh
     rw [Array.getElem?_eq_none (by omega)]
   ·rfl
  rw [e2]
set_option maxHeartbeats 4000000 in
theorem read_script (s:ByteArray) (w:World) (hs:s.size ≤ maxLen) (htab:Lib.TabIs Tryz.prog w "strings.asciiSpace" .u8 Lib.asciiSpaceTab) (hmx:∃ m:Int,w.cell? ⟨1,0,none⟩ = some (.int .i64 m)) (x:Nd) (s9:PS)
  (hF:∀ (p:Nat) (v:Value) (W:World),PAt W p v (envOf s.data.toList) st0 → Calls Tryz.prog 54 #[PP p] W (ScrR p v (envOf s.data.toList) s9 x W))
  (hlong:16384 < s.size → s9.code = 1803 ∧ s9.bad = 0) :
  Calls Tryz.prog 49 #[.string s,.func (.func 54) #[] #[]] w (TreeR x s9 w):=by
 have hmf:∀ (fn:Fn) (first cap:Array Value) (w:World),(Instr.makeFunc fn first cap).run Tryz.prog w = .ok (.func fn first cap) w:=fun _ _ _ _=>rfl
 have HT:=Lib.hid (fun (z:ByteArray) (W:World) (hz:z.size ≤ maxLen) (hb:Below w.heap.size w W)=>Tok_all z W hz (tab_below htab hb))
 have HMX:=Lib.hid hmx
 have HF:=Lib.hid hF
 have HLO:=Lib.hid hlong
 have HSZ:=Lib.hid hs
 clear htab hmx hF hlong hs
 go_enter_defers Tryz.func49,Tryz.ntmps49
 go_wp2_with fail
 have HB3:Hid (Below w.heap.size w (((w.alloc (ndO zero (.slice none 0 0))).alloc (.cells #[.int .i64 0] 3 (0,0))).alloc (.cells #[.int .i64 0] 25 (0,0)))):=(((Below.refl _ _).alloc (Nat.le_refl _) _).alloc (by simp) _).alloc (by simp;omega) _
 have HR3:Hid (ResAt (((w.alloc (ndO zero (.slice none 0 0))).alloc (.cells #[.int .i64 0] 3 (0,0))).alloc (.cells #[.int .i64 0] 25 (0,0))) w.heap.size (w.heap.size + 1) (w.heap.size + 1 + 1) (.int .i64 0) (.string ⟨#[]⟩) (.float .f64 0) (.slice none 0 0) (.int .i64 0) (.int .i64 0) (.int .i64 0)):=by
  refine ⟨blk_old (blk_old (blk_new _ _) _) _,blk_old ?_ _,?_⟩
  ·have:=blk_new (w.alloc (ndO zero (.slice none 0 0))) (.cells #[.int .i64 0] 3 (0,0))
   simpa using this
  ·have:=blk_new ((w.alloc (ndO zero (.slice none 0 0))).alloc (.cells #[.int .i64 0] 3 (0,0))) (.cells #[.int .i64 0] 25 (0,0))
   simpa using this
 change Calls _ _ _ (((w.alloc (ndO zero (.slice none 0 0))).alloc (.cells #[.int .i64 0] 3 (0,0))).alloc (.cells #[.int .i64 0] 25 (0,0))) _
 generalize (((w.alloc (ndO zero (.slice none 0 0))).alloc (.cells #[.int .i64 0] 3 (0,0))).alloc (.cells #[.int .i64 0] 25 (0,0))) = wa at *
 have hsza:=HR3.out.cells.l6
 refine (HT.out s wa HSZ.out HB3.out).mono ?_
 rintro e wb ⟨v,rfl,h0,h1,hb⟩
 obtain ⟨pa,hpa⟩:∃ q,(scanL s.data.toList).2.1 = q:=⟨_,rfl⟩
 obtain ⟨er,her⟩:∃ q,(scanL s.data.toList).2.2 = q:=⟨_,rfl⟩
 rw [hpa,her]
 rw [her] at h0 h1
 have HR4:=Lib.hid (HR3.out.turned (Turned.of_below (S := []) hb) (by simp) (by simp) (by simp))
 have HB4:=Lib.hid (HB3.out.trans (hb.mono HB3.out.size))
 have HZ4:=Lib.hid hb.size
 clear hb HR3 HB3
 obtain ⟨c0,c1,c2,c3,c4,c5,c6,f0,f1,f2,f3,f4,f5,f6,l4,l5,l6⟩:=HR4.out.cells
 go_upto_region 3 with fail
 have HR5:=Lib.hid ((HR4.out.set5 (by omega) (by omega) (.int .i64 pa)).set6 (by omega) (by omega) (.int .i64 er))
 have HB5:=Lib.hid ((HB4.out.setCell (p:=⟨w.heap.size + 1,0,none⟩) (by simp) (.int .i64 pa)).setCell (p:=⟨w.heap.size + 1 + 1,0,none⟩) (by simp;omega) (.int .i64 er))
 have HRW:Hid (er = 0 → TRow ((wb.setCell ⟨w.heap.size + 1,0,none⟩ (.int .i64 pa)).setCell ⟨w.heap.size + 1 + 1,0,none⟩ (.int .i64 er)) wa.heap.size v (scanL s.data.toList).1):=fun h=>by
  have hr:=h0 h
  refine lex.trow_kept hr (fun g o hg ho => ?_)
  have hge:=(World.ownsRow.lt hr g hg).1
  rw [blk_other (by omega),blk_other (by omega)]
  exact ho
 clear c0 c1 c2 c3 c4 c5 c6 f0 f1 f2 f3 f4 f5 f6 l4 l5 l6 HR4 HB4 h0
 generalize ((wb.setCell _ _).setCell _ _) = wc at *
 obtain ⟨c0,c1,c2,c3,c4,c5,c6,f0,f1,f2,f3,f4,f5,f6,l4,l5,l6⟩:=HR5.out.cells
 by_cases e0:er = 0
 ·subst e0
  have HR:Hid (RS w s.data.toList v pa 0 wc):=⟨HR5.out,by rw [pts_good her];exact trow_base (HRW.out rfl) hsza,HB5.out⟩
  have HER:=Lib.hid her
  clear h1 hpa her HRW HT HLO HSZ
  go_upto_region 8 with fail
  clear c0 c1 c2 c3 c4 c5 c6 f0 f1 f2 f3 f4 f5 f6 l4 l5 l6 HR5 HB5
  obtain ⟨wr,rfl⟩:∃ wr:World,wr = wc:=⟨_,rfl⟩
  have hpat:=HR.out.pat HMX.out
  obtain ⟨c0,c1,c2,c3,c4,c5,c6,f0,f1,f2,f3,f4,f5,f6,l4,l5,l6⟩:=HR.out.res.cells
  obtain ⟨av,cv,rfl⟩:=HR.out.row.slice
  have hcd:(envOf s.data.toList).lex = 0:=HER.out
  have HPAT:Hid (PAt (wr.alloc (.cells #[.slice av (pts (envOf s.data.toList)).length cv,.int .i64 0,.int .i64 0,.int .i64 0] 133 (0,0))) wr.heap.size (.slice av (pts (envOf s.data.toList)).length cv) (envOf s.data.toList) st0):=by
   have h:PAt (wr.alloc (.cells #[.slice av (pts (envOf s.data.toList)).length cv,.int .i64 0,.int .i64 (envOf s.data.toList).lex,.int .i64 0] 133 (0,0))) wr.heap.size (.slice av (pts (envOf s.data.toList)).length cv) (envOf s.data.toList) st0:=hpat
   rw [hcd] at h
   exact h
  have HAL:=Lib.hid (((HR.out.alloc (.cells #[.slice av (pts (envOf s.data.toList)).length cv,.int .i64 0,.int .i64 0,.int .i64 0] 133 (0,0)))))
  clear hpat hcd
  generalize (pts (envOf s.data.toList)).length = pl at *
  go_wp2_with fail
  refine (HF.out _ _ _ HPAT.out).mono ?_
  intro e w2 hp
  have hszr:=HR.out.bel.size
  have hsz4:=HR.out.res.cells.l6
  clear c0 c1 c2 c3 c4 c5 c6 f0 f1 f2 f3 f4 f5 f6 l4 l5 l6
  rcases hp with ⟨hcz,t9,a9,n9,S9,rfl,hk,hS,hP,hT⟩ | ⟨hcz,rfl,hT⟩
  ·have HR2:=Lib.hid (HAL.out.1.turned hT (by simp;omega) (by simp;omega) (by simp;omega))
   have HB2:=Lib.hid (HAL.out.2.trans (hT.below (by simp;omega) (by simp;omega)))
   have HTR:Hid ((Tr.mk x.kids (.slice a9 x.kids.length n9) S9).ok w2 ∧ (∀ b ∈ S9,wr.heap.size + 1 ≤ b) ∧ s9.code = 0):=⟨hk,by simpa using hS,hcz⟩
   clear hk hS hP hT hcz HPAT HAL HF
   obtain ⟨c0,c1,c2,c3,c4,c5,c6,f0,f1,f2,f3,f4,f5,f6,l4,l5,l6⟩:=HR2.out.cells
   go_wp2_with fail
   refine leaves_cons (f:=67) (args := #[.pointer (some ⟨w.heap.size,0,none⟩),.pointer (some ⟨w.heap.size + 1,0,none⟩),.pointer (some ⟨w.heap.size + 1 + 1,0,none⟩)]) (by simp) (by simp [go_sem]) ?_
   refine (read1_idle _ _ _ _).mono ?_
   rintro e u' w3 ⟨rfl,rfl,rfl⟩
   have HR6:=Lib.hid (((HR2.out.set4 (by omega) (by omega) (.int .i64 x.kind) (.string ⟨x.text.toArray⟩) (.float .f64 x.num) (.slice a9 x.kids.length n9) (.int .i64 x.at')).set5 (by omega) (by omega) (.int .i64 0)).set6 (by omega) (by omega) (.int .i64 0))
   have HT6:Hid (Turned [w.heap.size,w.heap.size + 1,w.heap.size + 1 + 1] w2 ((((((((w2.setCell _ _).setCell _ _).setCell _ _).setCell _ _).setCell _ _)).setCell _ _).setCell _ _)):=(((((((Turned.refl [w.heap.size,w.heap.size + 1,w.heap.size + 1 + 1] w2).setCell (p:=⟨w.heap.size,0,none⟩) (by simp) (.int .i64 x.kind)).setCell (p:=⟨w.heap.size,1,none⟩) (by simp) (.string ⟨x.text.toArray⟩)).setCell (p:=⟨w.heap.size,2,none⟩) (by simp) (.float .f64 x.num)).setCell (p:=⟨w.heap.size,3,none⟩) (by simp) (.slice a9 x.kids.length n9)).setCell (p:=⟨w.heap.size,4,none⟩) (by simp) (.int .i64 x.at')).setCell (p:=⟨w.heap.size + 1,0,none⟩) (by simp) (.int .i64 0)).setCell (p:=⟨w.heap.size + 1 + 1,0,none⟩) (by simp) (.int .i64 0)
   clear c0 c1 c2 c3 c4 c5 c6 f0 f1 f2 f3 f4 f5 f6 l4 l5 l6 HR2
   generalize (((((((w2.setCell _ _).setCell _ _).setCell _ _).setCell _ _).setCell _ _)).setCell _ _).setCell _ _ = wf at HR6 HT6 ⊢
   obtain ⟨c0,c1,c2,c3,c4,c5,c6,f0,f1,f2,f3,f4,f5,f6,l4,l5,l6⟩:=HR6.out.cells
   refine ⟨.tuple #[.agg #[.int .i64 x.kind,.string ⟨x.text.toArray⟩,.float .f64 x.num,.slice a9 x.kids.length n9,.int .i64 x.at'],.int .i64 0,.int .i64 0],by simp [results,Tryz.results49,go_sem,c0,c1,c2,c3,c4,c5,c6],?_⟩
   obtain ⟨hk,hS,hcz⟩:=HTR.out
   rw [TreeR,if_pos hcz]
   exact ⟨a9,n9,S9,rfl,hk.turned HT6.out (fun b hb=>by have:=hS b hb;simp;omega),fun b hb=>by have:=hS b hb;omega,HB2.out.trans (HT6.out.below HB2.out.size (by simp;omega))⟩
  ·have HR2:=Lib.hid (HAL.out.1.turned hT (by simp;omega) (by simp;omega) (by simp;omega))
   have HB2:=Lib.hid (HAL.out.2.trans (hT.below (by simp;omega) (by simp;omega)))
   have HCZ:=Lib.hid hcz
   clear hT hcz HPAT HAL HF
   go_wp2_with fail
   refine leaves_cons (f:=67) (args := #[.pointer (some ⟨w.heap.size,0,none⟩),.pointer (some ⟨w.heap.size + 1,0,none⟩),.pointer (some ⟨w.heap.size + 1 + 1,0,none⟩)]) (by simp) (by simp [go_sem]) ?_
   refine (read1_panic _ _ _ _ _ _ _ _ _ _ s9.bad s9.code _ HR2.out (by omega) (by omega) (by omega)).mono ?_
   rintro e u' w3 ⟨rfl,rfl,hr,ht⟩
   obtain ⟨c0,c1,c2,c3,c4,c5,c6,f0,f1,f2,f3,f4,f5,f6,l4,l5,l6⟩:=hr.cells
   refine ⟨.tuple #[.agg #[.int .i64 0,.string ⟨#[]⟩,.float .f64 0,.slice none 0 0,.int .i64 0],.int .i64 s9.bad,.int .i64 s9.code],by simp [results,Tryz.results49,go_sem,c0,c1,c2,c3,c4,c5,c6],?_⟩
   rw [TreeR,if_neg HCZ.out]
   exact ⟨rfl,HB2.out.trans (ht.below HB2.out.size (by simp;omega))⟩
 ·by_cases e3:er = 1803
  ·subst e3
   have hl:=(long_iff _).1 her
   rw [list_len] at hl
   have HCB:=Lib.hid (HLO.out hl)
   clear h1 hpa her HRW HT HLO HSZ hl HF e0
   go_wp2_with fail
   refine (fail_any _ _ _).mono ?_;rintro e w2 ⟨rfl,rfl⟩
   clear c0 c1 c2 c3 c4 c5 c6 f0 f1 f2 f3 f4 f5 f6 l4 l5 l6
   go_wp2_with fail
   refine leaves_cons (f:=67) (args := #[.pointer (some ⟨w.heap.size,0,none⟩),.pointer (some ⟨w.heap.size + 1,0,none⟩),.pointer (some ⟨w.heap.size + 1 + 1,0,none⟩)]) (by simp) (by simp [go_sem]) ?_
   refine (read1_panic _ _ _ _ _ _ _ _ _ _ 0 1803 _ HR5.out (by omega) (by omega) (by omega)).mono ?_
   rintro e u' w3 ⟨rfl,rfl,hr,ht⟩
   obtain ⟨c0,c1,c2,c3,c4,c5,c6,f0,f1,f2,f3,f4,f5,f6,l4,l5,l6⟩:=hr.cells
   refine ⟨.tuple #[.agg #[.int .i64 0,.string ⟨#[]⟩,.float .f64 0,.slice none 0 0,.int .i64 0],.int .i64 0,.int .i64 1803],by simp [results,Tryz.results49,go_sem,c0,c1,c2,c3,c4,c5,c6],?_⟩
   obtain ⟨e1,e2⟩:=HCB.out
   rw [TreeR,if_neg (by rw [e1];decide),e1,e2]
   exact ⟨rfl,HB5.out.trans (ht.below HB5.out.size (by simp;omega))⟩
  ·obtain ⟨hcut,hple,hlen⟩:=lex.scanL_cut (l:=s.data.toList) (by rw [her];exact e0) (by rw [her];exact e3)
   rw [hpa] at hcut hple
   rw [list_len] at hple hlen
   have hne:(er != 0) = true:=by simpa using e0
   have hn3:(er == 1803) = false:=by simpa using e3
   have hpaI:(pa:Int) ≤ (s.size:Int):=by omega
   have HCUT:=Lib.hid hcut
   have HER:=Lib.hid her
   have HPA:=Lib.hid hpa
   have HE:=Lib.hid (And.intro e0 e3)
   clear h1 hpa her HRW HLO hcut hlen e0 e3
   have HTK:Hid (Calls Tryz.prog 68 #[.string (s.extract 0 pa)] wc fun e w'=>∃ v2,e = .returned (.tuple #[v2,.int .i64 0,.int .i64 0]) ∧ TRow w' wc.heap.size v2 (pts (envOf s.data.toList)) ∧ Below wc.heap.size wc w'):=by
    have hz:(s.extract 0 pa).size ≤ maxLen:=by
     have h1:(s.extract 0 pa).size = pa:=by simp;omega
     have h2:s.size ≤ maxLen:=HSZ.out
     omega
    refine (HT.out (s.extract 0 pa) wc hz HB5.out).mono ?_
    have hp:=(pts_cut (l:=s.data.toList) (by rw [HER.out];exact HE.out.1) (by rw [HER.out];exact HE.out.2)).1
    have hq:=HPA.out
    rw [hq,← extract_list] at hp
    have hcc:=HCUT.out
    rw [← extract_list] at hcc
    rintro e w' ⟨v2,rfl,g0,-,hb⟩
    rw [← hp,hcc] at g0
    rw [hcc]
    exact ⟨v2,rfl,g0 rfl,hb⟩
   have HPL:Hid (∃ m,(pts (envOf s.data.toList)).length = m + 1 ∧ m ≤ 20000 ∧ (pts (envOf s.data.toList))[m]? = some ⟨0,[],0,pa⟩):=by
    have h1:(envOf s.data.toList).ts.length ≤ 16386:=scanL_len s.data.toList
    have h2:(envOf s.data.toList).lex ≠ 0:=by rw [show (envOf s.data.toList).lex = er from HER.out];exact HE.out.1
    refine ⟨(envOf s.data.toList).ts.length,by rw [pts_len,if_neg h2],by omega,?_⟩
    unfold pts
    rw [if_neg h2,List.getElem?_append_right (Nat.le_refl _),Nat.sub_self]
    have h3:(envOf s.data.toList).lat.toNat = pa:=by
     show (((scanL s.data.toList).2.1:Nat):Int).toNat = pa
     rw [HPA.out];rfl
    rw [h3]
    rfl
   clear HT HSZ HCUT HPA
   go_wp2_with fail
   refine HTK.out.mono ?_
   rintro e wd ⟨v2,rfl,hrow,hb⟩
   obtain ⟨m,hm,hm2,hm3⟩:=HPL.out
   have HLN:=Lib.hid hm
   have HWC:=Lib.hid HR5.out.cells.l6
   obtain ⟨a2,cp2,rfl⟩:=hrow.slice
   rw [hm] at hrow ⊢
   obtain ⟨g,rfl⟩:∃ g,a2 = some ⟨g,0,none⟩:=by
    rcases hrow.cells with ⟨h1,h2⟩ | ⟨g,c,h1,-⟩
    ·rw [h2] at hm;simp at hm
    ·simp only [Value.slice.injEq] at h1;exact ⟨g,h1.1⟩
   obtain ⟨k0,kf,hrow2,hc1,hc2,hbg,hgl⟩:=row_same hrow hm3 hm
   simp only at k0 hrow2
   have HR6:=Lib.hid (HR5.out.turned (Turned.of_below (S := []) hb) (by simp) (by simp) (by simp))
   have HB6:=Lib.hid (HB5.out.trans (hb.mono HB5.out.size))
   have HRW2:=Lib.hid hrow2
   have HBG:=Lib.hid hbg
   have hzz:=hb.size
   clear c0 c1 c2 c3 c4 c5 c6 f0 f1 f2 f3 f4 f5 f6 l4 l5 l6 hb HTK HPL hrow hrow2 hm hm3 HR5 HB5
   obtain ⟨c0,c1,c2,c3,c4,c5,c6,f0,f1,f2,f3,f4,f5,f6,l4,l5,l6⟩:=HR6.out.cells
   unfold maxLen at hc2
   have hiw:IntKind.i64.wrap ((m:Int) + 1 - 1) = (m:Int):=by rw [Int.add_sub_cancel];exact IntWalk.i64_in _ (by omega)
   go_upto_region 8 with fail
   have HR:Hid (RS w s.data.toList (.slice (some ⟨g,0,none⟩) (m + 1) cp2) pa er (wd.setCell ⟨g,m * 4 + 3,none⟩ (.int .i64 pa))):=by
    have ht:Turned [g] wd (wd.setCell ⟨g,m * 4 + 3,none⟩ (.int .i64 pa)):=(Turned.refl _ _).setCell (by simp) _
    have hg:=HBG.out
    have h6:=HR6.out.cells.l6
    have hcc:w.heap.size + 1 + 1 < wc.heap.size:=HWC.out
    refine ⟨HR6.out.turned ht (by simp;omega) (by simp;omega) (by simp;omega),trow_base HRW2.out (by omega),HB6.out.setCell (by simp;omega) _⟩
   clear c0 c1 c2 c3 c4 c5 c6 f0 f1 f2 f3 f4 f5 f6 l4 l5 l6 HR6 HB6 HRW2 HBG k0 kf hc1 hc2 hgl hiw hzz
   generalize (wd.setCell _ _) = wr at HR ⊢
   generalize Value.slice (some ⟨g,0,none⟩) (m + 1) cp2 = vv at HR ⊢
   clear HLN
   have hpat:=HR.out.pat HMX.out
   obtain ⟨c0,c1,c2,c3,c4,c5,c6,f0,f1,f2,f3,f4,f5,f6,l4,l5,l6⟩:=HR.out.res.cells
   obtain ⟨av,cv,rfl⟩:=HR.out.row.slice
   have hcd:(envOf s.data.toList).lex = er:=HER.out
   have HPAT:Hid (PAt (wr.alloc (.cells #[.slice av (pts (envOf s.data.toList)).length cv,.int .i64 0,.int .i64 er,.int .i64 0] 133 (0,0))) wr.heap.size (.slice av (pts (envOf s.data.toList)).length cv) (envOf s.data.toList) st0):=by
    have h:PAt (wr.alloc (.cells #[.slice av (pts (envOf s.data.toList)).length cv,.int .i64 0,.int .i64 (envOf s.data.toList).lex,.int .i64 0] 133 (0,0))) wr.heap.size (.slice av (pts (envOf s.data.toList)).length cv) (envOf s.data.toList) st0:=hpat
    rw [hcd] at h
    exact h
   have HAL:=Lib.hid (((HR.out.alloc (.cells #[.slice av (pts (envOf s.data.toList)).length cv,.int .i64 0,.int .i64 er,.int .i64 0] 133 (0,0)))))
   clear hpat hcd
   generalize (pts (envOf s.data.toList)).length = pl at *
   go_wp2_with fail
   refine (HF.out _ _ _ HPAT.out).mono ?_
   intro e w2 hp
   have hszr:=HR.out.bel.size
   have hsz4:=HR.out.res.cells.l6
   clear c0 c1 c2 c3 c4 c5 c6 f0 f1 f2 f3 f4 f5 f6 l4 l5 l6
   rcases hp with ⟨hcz,t9,a9,n9,S9,rfl,hk,hS,hP,hT⟩ | ⟨hcz,rfl,hT⟩
   ·have HR2:=Lib.hid (HAL.out.1.turned hT (by simp;omega) (by simp;omega) (by simp;omega))
    have HB2:=Lib.hid (HAL.out.2.trans (hT.below (by simp;omega) (by simp;omega)))
    have HTR:Hid ((Tr.mk x.kids (.slice a9 x.kids.length n9) S9).ok w2 ∧ (∀ b ∈ S9,wr.heap.size + 1 ≤ b) ∧ s9.code = 0):=⟨hk,by simpa using hS,hcz⟩
    clear hk hS hP hT hcz HPAT HAL HF
    obtain ⟨c0,c1,c2,c3,c4,c5,c6,f0,f1,f2,f3,f4,f5,f6,l4,l5,l6⟩:=HR2.out.cells
    go_wp2_with fail
    refine leaves_cons (f:=67) (args := #[.pointer (some ⟨w.heap.size,0,none⟩),.pointer (some ⟨w.heap.size + 1,0,none⟩),.pointer (some ⟨w.heap.size + 1 + 1,0,none⟩)]) (by simp) (by simp [go_sem]) ?_
    refine (read1_idle _ _ _ _).mono ?_
    rintro e u' w3 ⟨rfl,rfl,rfl⟩
    have HR6:=Lib.hid (((HR2.out.set4 (by omega) (by omega) (.int .i64 x.kind) (.string ⟨x.text.toArray⟩) (.float .f64 x.num) (.slice a9 x.kids.length n9) (.int .i64 x.at')).set5 (by omega) (by omega) (.int .i64 0)).set6 (by omega) (by omega) (.int .i64 0))
    have HT6:Hid (Turned [w.heap.size,w.heap.size + 1,w.heap.size + 1 + 1] w2 ((((((((w2.setCell _ _).setCell _ _).setCell _ _).setCell _ _).setCell _ _)).setCell _ _).setCell _ _)):=(((((((Turned.refl [w.heap.size,w.heap.size + 1,w.heap.size + 1 + 1] w2).setCell (p:=⟨w.heap.size,0,none⟩) (by simp) (.int .i64 x.kind)).setCell (p:=⟨w.heap.size,1,none⟩) (by simp) (.string ⟨x.text.toArray⟩)).setCell (p:=⟨w.heap.size,2,none⟩) (by simp) (.float .f64 x.num)).setCell (p:=⟨w.heap.size,3,none⟩) (by simp) (.slice a9 x.kids.length n9)).setCell (p:=⟨w.heap.size,4,none⟩) (by simp) (.int .i64 x.at')).setCell (p:=⟨w.heap.size + 1,0,none⟩) (by simp) (.int .i64 0)).setCell (p:=⟨w.heap.size + 1 + 1,0,none⟩) (by simp) (.int .i64 0)
    clear c0 c1 c2 c3 c4 c5 c6 f0 f1 f2 f3 f4 f5 f6 l4 l5 l6 HR2
    generalize (((((((w2.setCell _ _).setCell _ _).setCell _ _).setCell _ _).setCell _ _)).setCell _ _).setCell _ _ = wf at HR6 HT6 ⊢
    obtain ⟨c0,c1,c2,c3,c4,c5,c6,f0,f1,f2,f3,f4,f5,f6,l4,l5,l6⟩:=HR6.out.cells
    refine ⟨.tuple #[.agg #[.int .i64 x.kind,.string ⟨x.text.toArray⟩,.float .f64 x.num,.slice a9 x.kids.length n9,.int .i64 x.at'],.int .i64 0,.int .i64 0],by simp [results,Tryz.results49,go_sem,c0,c1,c2,c3,c4,c5,c6],?_⟩
    obtain ⟨hk,hS,hcz⟩:=HTR.out
    rw [TreeR,if_pos hcz]
    exact ⟨a9,n9,S9,rfl,hk.turned HT6.out (fun b hb=>by have:=hS b hb;simp;omega),fun b hb=>by have:=hS b hb;omega,HB2.out.trans (HT6.out.below HB2.out.size (by simp;omega))⟩
   ·have HR2:=Lib.hid (HAL.out.1.turned hT (by simp;omega) (by simp;omega) (by simp;omega))
    have HB2:=Lib.hid (HAL.out.2.trans (hT.below (by simp;omega) (by simp;omega)))
    have HCZ:=Lib.hid hcz
    clear hT hcz HPAT HAL HF
    go_wp2_with fail
    refine leaves_cons (f:=67) (args := #[.pointer (some ⟨w.heap.size,0,none⟩),.pointer (some ⟨w.heap.size + 1,0,none⟩),.pointer (some ⟨w.heap.size + 1 + 1,0,none⟩)]) (by simp) (by simp [go_sem]) ?_
    refine (read1_panic _ _ _ _ _ _ _ _ _ _ s9.bad s9.code _ HR2.out (by omega) (by omega) (by omega)).mono ?_
    rintro e u' w3 ⟨rfl,rfl,hr,ht⟩
    obtain ⟨c0,c1,c2,c3,c4,c5,c6,f0,f1,f2,f3,f4,f5,f6,l4,l5,l6⟩:=hr.cells
    refine ⟨.tuple #[.agg #[.int .i64 0,.string ⟨#[]⟩,.float .f64 0,.slice none 0 0,.int .i64 0],.int .i64 s9.bad,.int .i64 s9.code],by simp [results,Tryz.results49,go_sem,c0,c1,c2,c3,c4,c5,c6],?_⟩
    rw [TreeR,if_neg HCZ.out]
    exact ⟨rfl,HB2.out.trans (ht.below HB2.out.size (by simp;omega))⟩
end Go.Proofs.YtmfpmandkhiknaaGreatDoor.qar
