/-
  Proved: what path.Clean gives. Conditions: as each theorem says.
  Proved: what path.Clean, path.Below, path.Join give. Conditions: as each theorem says.
-/
import Derived.Test.YtifhnpkapgaboaaGreatPj5
import Derived.Deep.DeepCutAuto
set_option linter.unusedVariables false
set_option linter.unusedSimpArgs false
namespace Go.Proofs.YtifhnpkapgaboaaGreat.path
open Go.RowKit Go.Shelf
open heap
attribute [local go_sem] Oper.semAt_some
theorem Keeps.of2 {B c:Nat} {W W':World} {S:List Nat} (h:Turned S W W') (hS:∀ b ∈ S,(b < B ∨ ∃ o,W.heap[b]? = some o ∧ o.isCells = true) ∧ b ≠ c) (hc:c < W.heap.size):Keeps B c W W':=
 ⟨h.size,fun b o hb ho hno=>h.kept ho (fun hm=>by
  rcases (hS b hm).1 with h1 | ⟨o',ho',hc'⟩
  ·omega
  ·rw [ho] at ho';cases ho';rw [hno] at hc';cases hc'),h.block c hc (fun hm=>(hS c hm).2 rfl)⟩
theorem wayW_mem (st ps ws:List (List UInt8)) (h:wayW st ps = some ws):∀ q ∈ ws,q ∈ st ∨ q ∈ ps:=by
 induction ps generalizing st with
 | nil=>simp [wayW] at h;subst h;intro q hq;exact .inl hq
 | cons p ps ih =>
  simp only [wayW] at h
  split at h
  ·cases h
  ·rename_i v hv
   intro q hq
   have h1:q ∈ v → q ∈ st ∨ q = p:=by
    unfold stepW at hv
    split at hv
    ·cases hv;exact .inl
    ·split at hv
     ·cases hv;exact fun hm=>.inl ((List.dropLast_sublist _).subset hm)
     ·split at hv
      ·cases hv
      ·cases hv
       intro hm
       rcases List.mem_append.1 hm with hm | hm
       ·exact .inl hm
       ·exact .inr (List.mem_singleton.1 hm)
   rcases ih v h q hq with hm | hm
   ·rcases h1 hm with hm | rfl
    ·exact .inl hm
    ·exact .inr (List.mem_cons_self ..)
   ·exact .inr (List.mem_cons_of_mem _ hm)
theorem inter_len (k:Nat):∀ ws:List (List UInt8),(∀ q ∈ ws,q.length ≤ k) → (joinL ws).length ≤ ws.length * (k + 1):=by
 intro ws
 induction ws with
 | nil=>intro _;simp [joinL,List.intercalate]
 | cons p ps ih =>
  intro h
  have hp:=h p (List.mem_cons_self ..)
  have:=ih (fun q hq=>h q (List.mem_cons_of_mem _ hq))
  cases ps with
  | nil=>simp [joinL,List.intercalate];omega
  | cons q qs =>
   simp [joinL,List.intercalate,List.intersperse] at this ⊢
   rw [Nat.add_mul]
   omega
theorem SRow.cells {w:World} {base:Nat} {v:Value} {ws:List (List UInt8)} (h:SRow w base v ws):(v = .slice none 0 0 ∧ ws = []) ∨ ∃ g c,v = .slice (some ⟨g,0,none⟩) ws.length c ∧ g < w.heap.size ∧ ws.length ≤ c ∧ c ≤ maxLen ∧ ∀ j q,ws[j]? = some q → w.cell? ⟨g,j,none⟩ = some (sv q):=by
 have hlt:=World.ownsRow.lt h
 have hcl := @World.ownsRow.cells _ _ _ _ _ _ _ h
 obtain ⟨hl,⟨h1,h2⟩ | ⟨g,c,cur,hv,h2,h3,h4,h5,h6,h7⟩⟩:=h
 ·exact .inl ⟨h1,List.length_eq_zero_iff.1 h2⟩
 ·refine .inr ⟨g,c,hv,(hlt g (by rw [hv];rfl)).2,h4,h5,fun j q hq => ?_⟩
  have:=hcl (g:=g) (by rw [hv];rfl) j (sv q) (by simp [hq])
  rwa [add0] at this
theorem Join_any (W:World) (base:Nat) (v:Value) (ws:List (List UInt8)) (h:SRow W base v ws) (hn:ws.length ≤ 1000) (hlen:(joinL ws).length ≤ 140737488355328) :
  Calls Tryz.prog 137 #[v,.string ⟨#[47]⟩] W fun e w'=>e = .returned (sv (joinL ws)) ∧ Below W.heap.size W w':=by
 rcases h.cells with ⟨rfl,rfl⟩ | ⟨g,c,rfl,hg,hc1,hc2,hcell⟩
 ·refine (Tryz.strings_Join_none none 0 ⟨#[47]⟩ W).mono ?_
  rintro e w' ⟨rfl,rfl⟩
  exact ⟨rfl,Below.refl _ _⟩
 ·have e:(ws.map fun q=>(⟨q.toArray⟩:ByteArray)).map (·.data.toList) = ws:=by
   rw [List.map_map]
   conv=>rhs;rw [← List.map_id ws]
   exact List.map_congr_left (fun q _=>by simp)
  have hj:=Tryz.strings_Join g 0 c (ws.map fun q=>(⟨q.toArray⟩:ByteArray)) ⟨#[47]⟩ W (fun j x hx=>by
   rw [List.getElem?_map] at hx
   cases hq:ws[j]? with
   | none=>simp [hq] at hx
   | some q =>
    simp [hq] at hx
    subst hx
    rw [Nat.zero_add]
    exact hcell j q hq) hg (by simp;omega) (by simpa using hc1) (by rw [e];exact hlen)
  rw [e,List.length_map] at hj
  exact hj
set_option maxRecDepth 100000 in
set_option maxHeartbeats 4000000 in
theorem Clean_main (cwd s:List UInt8) (w:World) (hc:cwd.length ≤ 9223372036854775806) (hcl:cleanB cwd = true) (h0:s ≠ []) (hs:s.length ≤ 560) :
  Calls Tryz.prog 123 #[sv cwd,sv s] w fun e w'=>e = .returned (.tuple #[sv (cleanR cwd s).1,.int .i64 (cleanR cwd s).2]) ∧ Below w.heap.size w w':=by
 have HC:=Lib.hid (fun W:World=>clean_any cwd W hc)
 have z:=str_size s
 rw [hcl] at HC
 have hcw:cwd.length ≤ 140:=by
  simp only [cleanB,Bool.or_eq_true,decide_eq_true_eq,Bool.and_eq_true] at hcl
  rcases hcl with h | h
  ·rw [h];simp
  ·exact h.2
 have hst:(startW cwd s).length ≤ 8:=by
  unfold startW
  split
  ·simp
  ·simp only [cleanB,Bool.or_eq_true,decide_eq_true_eq,Bool.and_eq_true] at hcl
   unfold partsL
   split
   ·simp
   ·rename_i hne
    exact (hcl.resolve_left hne).1.2
 have b0:s.isEmpty = false:=by cases s <;> simp_all
 have b0':(s == []) = false:=by rw [beq_eq_false_iff_ne];exact h0
 have HPA:=Lib.hid (fun W:World=>Parts_any cwd W (by omega))
 have HPI:=Lib.hid (fun W:World=>pieces_any s W)
 have hpos:0 < s.length:=by cases s <;> simp_all
 refine (callsIn_wide (n:=9)).1 (callsIn_of_wp_marks Tryz.func123 rfl trivial ?_ rfl)
 simp only [Tryz.ntmps123,List.size_toArray,List.length_cons,List.length_nil,Nat.reduceAdd,Nat.reduceSub,Array.replicate_succ,Array.replicate_zero,List.push_toArray,List.append_toArray,List.nil_append,List.cons_append]
 refine wpIn_wide.2 ?_
 have HR1:=Lib.hid (blk_old (blk_new w (.cells #[.string ⟨#[]⟩] 9 (0,0))) (.cells #[.int .i64 0] 26 (0,0)))
 have hr2:=blk_new (w.alloc (.cells #[.string ⟨#[]⟩] 9 (0,0))) (.cells #[.int .i64 0] 26 (0,0))
 rw [World.size_alloc] at hr2
 have HR2:=Lib.hid hr2
 have HBA:Hid (Below w.heap.size w ((w.alloc (.cells #[.string ⟨#[]⟩] 9 (0,0))).alloc (.cells #[.int .i64 0] 26 (0,0)))):=((Below.refl _ _).alloc (Nat.le_refl _) _).alloc (by simp) _
 clear hr2
 go_wp2_with fail
 (with_reducible refine (HC.out _).mono ?_);rintro e w1 ⟨rfl,hb1⟩
 have HR1':=Lib.hid (blk_below HR1.out hb1)
 have HR2':=Lib.hid (blk_below HR2.out hb1)
 have HB1:Hid (Below w.heap.size w w1):=HBA.out.trans (hb1.mono HBA.out.size)
 have hsz1:w.heap.size + 2 ≤ w1.heap.size:=by have:=hb1.size;simp at this;omega
 clear hb1 HR1 HR2 HBA HC
 have hz0:0 < (⟨s.toArray⟩:ByteArray).size:=by rw [z];exact hpos
 have hhd:s.head? = some ((⟨s.toArray⟩:ByteArray)[0]'hz0):=by
  cases s with
  | nil=>simp at hpos
  | cons c r=>rfl
 obtain ⟨x0,hx0⟩:∃ x0:UInt8,(⟨s.toArray⟩:ByteArray)[0]'hz0 = x0:=⟨_,rfl⟩
 rw [hx0] at hhd
 obtain ⟨c0,hc0⟩:∃ c0:Nat,x0.toNat = c0:=⟨_,rfl⟩
 have d560:decide ((560:Int) < (s.length:Int)) = false:=by simp;omega
 have hCR:cleanR cwd s = (match wayW (startW cwd s) (piecesL s) with
  | none=>([],401)
  | some way=>if way.length > 8 then ([],402) else if (joinL way).length > 140 then ([],403) else (joinL way,0)):=by
  rw [cleanR,hcl,if_neg (by simp),if_neg h0,if_neg (by omega)]
  rfl
 have HCR:=Lib.hid hCR
 have HHD:=Lib.hid hhd
 have HBD:=Lib.hid (pieces_bd s)
 clear hCR hhd h0 hpos hcl
 have hW1:(w1.alloc (.cells #[.slice none 0 0] 59)).heap.size = w1.heap.size + 1:=by simp
 have HCUT:Hid (∀ W:World,Below w.heap.size w W → W.heap[w.heap.size]? = some (.cells #[.string ⟨#[]⟩] 9 (0,0)) → W.heap[w.heap.size + 1]? = some (.cells #[.int .i64 0] 26 (0,0)) → True):=fun _ _ _ _=>trivial
 obtain ⟨b22,hb22⟩:∃ b22:Bool,((c0:Int) != 47) = b22:=⟨_,rfl⟩
 go_upto_if 22 with (fail)
 go_cut [6] from 23 to 24 (fun s6 wx=>s6 = .pointer (some ⟨w1.heap.size,0,none⟩) ∧ Hid (∃ a n cp,wx.heap[w.heap.size]? = some (.cells #[.string ⟨#[]⟩] 9 (0,0)) ∧ wx.heap[w.heap.size + 1]? = some (.cells #[.int .i64 0] 26 (0,0)) ∧
  wx.heap[w1.heap.size]? = some (.cells #[.slice a n cp] 59 (0,0)) ∧ SRow wx (w1.heap.size + 1) (.slice a n cp) (startW cwd s) ∧ Below w.heap.size w wx))
 case first =>
  by_cases hh:x0 = 47
  ·obtain rfl:b22 = false:=by rw [← hb22,← hc0,hh];rfl
   have HST:Hid (startW cwd s = []):=by rw [Hid,startW,if_pos (by rw [HHD.out,hh])]
   clear hh
   go_wp2_with fail
   go_meet
   exact ⟨rfl,none,0,0,blk_old HR1'.out _,blk_old HR2'.out _,blk_new w1 _,by rw [HST.out];exact World.ownsRow_nil _ _ _ _,HB1.out.alloc HB1.out.size _⟩
  ·obtain rfl:b22 = true:=by
    rw [← hb22,bne_iff_ne,← hc0]
    intro h
    exact hh (UInt8.toNat_inj.1 (by have : x0.toNat = 47 := by omega
                                    rw [this];rfl))
   have HST:Hid (startW cwd s = partsL cwd):=by rw [Hid,startW,if_neg (by rw [HHD.out];intro h;exact hh (by simpa using h))]
   clear hh
   go_wp2_with fail
   (with_reducible refine (HPA.out _).mono ?_);rintro e w2 ⟨v,rfl,hrow,hb2⟩
   obtain ⟨a,cp,rfl⟩:=own_slice hrow
   rw [hW1] at hrow
   have hbw:=blk_below (blk_new w1 (.cells #[.slice none 0 0] 59 (0,0))) hb2
   have k0:w2.cell? ⟨w1.heap.size,0,none⟩ = some (.slice none 0 0):=by rw [blk_cell hbw];rfl
   have g0:w2.frozen? ⟨w1.heap.size,0,none⟩ = false:=blk_free hbw 0
   have hne:∀ g,(Value.slice a (partsL cwd).length cp).ownBlock = some g → g ∉ [w1.heap.size]:=fun g hg hm=>by have:=(World.ownsRow.lt hrow g hg).1;simp at hm;omega
   have HF:Hid (∃ a' n' cp',(w2.setCell ⟨w1.heap.size,0,none⟩ (.slice a (partsL cwd).length cp)).heap[w.heap.size]? = some (.cells #[.string ⟨#[]⟩] 9 (0,0)) ∧ (w2.setCell ⟨w1.heap.size,0,none⟩ (.slice a (partsL cwd).length cp)).heap[w.heap.size + 1]? = some (.cells #[.int .i64 0] 26 (0,0)) ∧
     (w2.setCell ⟨w1.heap.size,0,none⟩ (.slice a (partsL cwd).length cp)).heap[w1.heap.size]? = some (.cells #[.slice a' n' cp'] 59 (0,0)) ∧ SRow (w2.setCell ⟨w1.heap.size,0,none⟩ (.slice a (partsL cwd).length cp)) (w1.heap.size + 1) (.slice a' n' cp') (startW cwd s) ∧ Below w.heap.size w (w2.setCell ⟨w1.heap.size,0,none⟩ (.slice a (partsL cwd).length cp))):=by
    refine ⟨a,_,cp,?_,?_,blk_set hbw 0 _,?_,?_⟩
    ·rw [blk_other (by omega)];exact blk_below (blk_old HR1'.out _) hb2
    ·rw [blk_other (by omega)];exact blk_below (blk_old HR2'.out _) hb2
    ·rw [HST.out];exact SRow.turned hrow ((Turned.refl _ _).setCell (by simp) _) hne
    ·have hal:=HB1.out.alloc HB1.out.size (.cells #[.slice none 0 0] 59)
     exact (hal.trans (hb2.mono hal.size)).setCell (by show w.heap.size ≤ w1.heap.size;omega) _
   clear hb2 hrow hbw hne
   go_wp2_with fail
   go_meet
   exact ⟨rfl,HF.out⟩
 case rest =>
  obtain ⟨rfl,HW⟩:=hcut
  obtain ⟨w2,rfl⟩:∃ w2,w2 = wc:=⟨_,rfl⟩
  clear HR1' HR2' HB1 HPA HHD hb22
  go_wp2_with fail
  (with_reducible refine (HPI.out _).mono ?_);rintro e w3 ⟨rfl,rfl⟩
  go_wp2_with fail
  obtain ⟨a,n,cp,h1,h2,h3,h4,h5⟩:=HW.out
  have hbc:w1.heap.size < w2.heap.size:=blk_lt h3
  have HV:Hid (VarIs w2.heap.size s (w2.alloc (.cells #[sv s] 9))):=blk_new _ _
  have HI:Hid (CnI w w1.heap.size w2.heap.size (startW cwd s) [] (w2.alloc (.cells #[sv s] 9))):=
   ⟨blk_old h1 _,blk_old h2 _,⟨a,n,cp,_,blk_old h3 _,World.ownsRow.alloc h4 _,rfl,fun g hg e=>by have:=(World.ownsRow.lt h4 g hg).2;omega⟩,h5.alloc h5.size _,by simp⟩
  have HZ:Hid ((w2.alloc (.cells #[sv s] 9)).heap.size = w2.heap.size + 1):=by simp [Hid]
  clear h1 h2 h3 h4 h5 HW
  generalize w2.heap.size = c at *
  generalize w2.alloc (.cells #[sv s] 9) = W3 at *
  refine wpIn_wide.1 (rangePieces (n:=9) c s (by omega) rfl HV.out (CnI w w1.heap.size c (startW cwd s)) (CnX w (startW cwd s)) ?hI ?hIx HI.out (fun x => { tmps := #[sv cwd,sv s,undef,undef,.pointer (some ⟨w.heap.size,0,none⟩),.pointer (some ⟨w.heap.size + 1,0,none⟩),.pointer (some ⟨w1.heap.size,0,none⟩),sv x,undef,.bool false,sv cwd,.bool true,.bool false,.bool false,sv s,.bool false,.bool false,sv s,.int .i64 s.length,.bool false,sv s,.int .u8 c0,.bool b22,u23,u24,sv s,.func (.func 141) #[] #[.pointer (some ⟨c,0,none⟩)],sv x,undef,undef,undef,undef,undef,undef,undef,undef,undef,undef,undef,undef,undef,undef,undef,undef,undef,undef,undef,undef,undef,undef,undef,undef,undef,undef,undef,undef,undef,undef,undef,undef,undef,undef,undef],defers := [] }) ?assign ?body ?done ?stop)
  case hI =>
   intro pre W W' hch h
   rw [HZ.out] at hch
   exact h.chg hch hsz1 hbc (by omega)
  case hIx =>
   rintro k pre W W' hch ⟨hk,h1,h2,h3,h4⟩
   rw [HZ.out] at hch
   have:=blk_lt h2
   exact ⟨hk,by rw [hch.low _ (by omega) (by omega) (by omega)];exact h1,by rw [hch.low _ (by omega) (by omega) (by omega)];exact h2,hch.below h3 (by omega) (by omega),h4⟩
  case assign =>
   intro l' x W K hK
   gi_wp2
   exact hK
  case body =>
   intro l' pre x W hszW hi hpre
   rw [HZ.out]
   obtain ⟨a,n,cp,ws,hv,hrow,hww,hg⟩:=hi.way
   have hxl:x.length ≤ s.length:=(HBD.out.2 x (hpre.subset (by simp))).1
   have hpl:pre.length < (piecesL s).length:=by have:=hpre.length_le;simp at this;omega
   have hbd:=HBD.out.1
   have hwl:=wayW_len _ _ _ hww
   have hsn:=wayW_snoc (startW cwd s) pre x
   rw [hww,Option.bind_some] at hsn
   have hBl:=blk_lt hv
   have k0:W.cell? ⟨w1.heap.size,0,none⟩ = some (.slice a n cp):=by rw [blk_cell hv];rfl
   have g0:W.frozen? ⟨w1.heap.size,0,none⟩ = false:=blk_free hv 0
   have HSN:=Lib.hid hsn
   have HII:=Lib.hid hi
   have HV2:=Lib.hid hv
   have HRW:=Lib.hid hrow
   have HG:=Lib.hid hg
   have hbig:=hi.big
   clear hsn hi hv hrow hg hpre hww
   by_cases hx1:x = [] ∨ x = [46]
   ·have HST:Hid (wayW (startW cwd s) (pre ++ [x]) = some ws):=by rw [Hid,HSN.out,stepW,if_pos hx1]
    have hF:Post (c + 1) c (CnI w w1.heap.size c (startW cwd s)) (CnX w (startW cwd s)) (pre ++ [x]) W .normal ⟨#[],[]⟩ W:=
     ⟨⟨Nat.le_refl _,fun _ _ _ h _=>h,rfl⟩,HII.out.r1,HII.out.r2,⟨a,n,cp,ws,HV2.out,HRW.out,HST.out,HG.out⟩,HII.out.bel,HII.out.big⟩
    have HF:=Lib.hid hF
    clear hF
    rcases hx1 with rfl | rfl
    ·gi_wp2_with fail
     exact HF.out
    ·gi_wp2_with fail
     exact HF.out
   ·by_cases hx2:x = [46,46]
    ·have HST:Hid (wayW (startW cwd s) (pre ++ [x]) = some ws.dropLast):=by rw [Hid,HSN.out,stepW,if_neg hx1,if_pos hx2]
     obtain ⟨hn,hrow2⟩:=HRW.out.drop
     have HTT:Hid (Turned [w1.heap.size] W (W.setCell ⟨w1.heap.size,0,none⟩ (.slice a (n - 1) cp))):=(Turned.refl _ _).setCell (by simp) _
     have HF:Hid (Post (c + 1) c (CnI w w1.heap.size c (startW cwd s)) (CnX w (startW cwd s)) (pre ++ [x]) W .normal ⟨#[],[]⟩ (W.setCell ⟨w1.heap.size,0,none⟩ (.slice a (n - 1) cp))):=by
      refine ⟨Keeps.of HTT.out (fun b hb=>by simp at hb;omega) (by omega),?_,?_,⟨a,n - 1,cp,_,blk_set HV2.out 0 _,?_,HST.out,?_⟩,HII.out.bel.trans (HTT.out.below HII.out.bel.size (fun b hb=>by simp at hb;omega)),Nat.lt_of_lt_of_le hbig HTT.out.size⟩
      ·rw [blk_other (by omega)];exact HII.out.r1
      ·rw [blk_other (by omega)];exact HII.out.r2
      ·refine SRow.turned hrow2 HTT.out (fun g hg hm => ?_)
       have:=(World.ownsRow.lt hrow2 g hg).1
       simp at hm
       omega
      ·intro g hg
       refine HG.out g ?_
       cases a <;> exact hg
     subst hx2
     clear hx1 hrow2 HSN
     rcases HRW.out.cells with ⟨hv',hw'⟩ | ⟨g,c',hv',hg1,hc1,hc2,_⟩
     ·simp only [Value.slice.injEq] at hv'
      obtain ⟨rfl,rfl,rfl⟩:=hv'
      clear hw' hn
      gi_wp2_with fail
      exact HF.out
     ·simp only [Value.slice.injEq] at hv'
      obtain ⟨rfl,rfl,rfl⟩:=hv'
      unfold maxLen at hc2
      clear hn
      rcases Nat.eq_zero_or_pos ws.length with hz | hz
      ·rw [hz] at HF HV2 k0 hc1 HRW HG HTT
       clear hwl hz
       gi_wp2_with fail
       exact HF.out
      ·have hm1:max (0:Int) ((ws.length:Int) - 1) = (ws.length:Int) - 1:=by omega
       have HE:Hid (((ws.length:Int) - 1).toNat = ws.length - 1):=by rw [Hid];omega
       gi_wp2_with fail
       exact HF.out
    ·have b1:x.isEmpty = false:=by cases x <;> simp_all
     have b1':(x == []) = false:=by rw [beq_eq_false_iff_ne];exact fun h=>hx1 (.inl h)
     have b2:(x == [46]) = false:=by rw [beq_eq_false_iff_ne];exact fun h=>hx1 (.inr h)
     have b3:(x == [46,46]) = false:=by rw [beq_eq_false_iff_ne];exact hx2
     have HN:=Lib.hid (fun W:World=>Name_any x W (by omega))
     by_cases hn:nameE x = 0
     ·rw [hn] at HN
      have HST:Hid (wayW (startW cwd s) (pre ++ [x]) = some (ws ++ [x])):=by rw [Hid,HSN.out,stepW,if_neg hx1,if_neg hx2,if_neg (by simp [hn])]
      clear hx1 hx2 hn HSN
      gi_wp2_with fail
      refine ⟨trivial,(CallsIn.inRound l' (callsIn_wide.2 (HN.out _))).mono ?_⟩
      rintro e w4 ⟨rfl,hb4⟩
      have hv4:=blk_below HV2.out hb4
      have hrow4:=HRW.out.below hb4
      have hs4:=hb4.size
      obtain ⟨a5,n5,c5,w5,hrun,hb5,hrow5,hv5,hz5,hk5,ho5,ht5,hu5,hli5⟩:=push_s w4 (w1.heap.size + 1) w1.heap.size _ ws x (by omega) hrow4 hv4 (by omega) (by omega)
      have q0:w4.cell? ⟨w1.heap.size,0,none⟩ = some (.slice a n cp):=by rw [blk_cell hv4];rfl
      have q1:w5.cell? ⟨w1.heap.size,0,none⟩ = some (.slice a n cp):=by rw [blk_cell hb5];rfl
      have q2:w5.frozen? ⟨w1.heap.size,0,none⟩ = false:=blk_free hb5 0
      have HLT:=Lib.hid (World.ownsRow.lt HRW.out)
      have HOC:=Lib.hid (fun (g:Nat) (hg:(Value.slice a n cp).ownBlock = some g)=>own_cells HRW.out hg)
      have HF:Hid (Post (c + 1) c (CnI w w1.heap.size c (startW cwd s)) (CnX w (startW cwd s)) (pre ++ [x]) W .normal ⟨#[],[]⟩ (w5.setCell ⟨w1.heap.size,0,none⟩ (.slice a5 n5 c5))):=by
       have hkk:∀ b,b < W.heap.size → b ≠ w1.heap.size → (Value.slice a n cp).ownBlock ≠ some b → (w5.setCell ⟨w1.heap.size,0,none⟩ (.slice a5 n5 c5)).heap[b]? = W.heap[b]?:=fun b hb hn hv=>by
        rw [hk5 b (Nat.lt_of_lt_of_le hb hs4) hn hv];exact hb4.block b hb
       refine ⟨⟨Nat.le_trans hs4 hz5,fun b o hbb ho hno => ?_,?_⟩,?_,?_,⟨a5,n5,c5,_,hv5,hrow5,HST.out,?_⟩,?_,?_⟩
       ·rw [hkk b (blk_lt ho) (by omega) (fun e => ?_)]
        ·exact ho
        ·obtain ⟨o',ho',hc'⟩:=HOC.out b e
         rw [ho] at ho';cases ho';rw [hno] at hc';cases hc'
       ·exact hkk _ (by omega) (by omega) (fun e=>HG.out _ e rfl)
       ·rw [hkk _ (by omega) (by omega) (fun e=>by have:=(HLT.out _ e).1;omega)];exact HII.out.r1
       ·rw [hkk _ (by omega) (by omega) (fun e=>by have:=(HLT.out _ e).1;omega)];exact HII.out.r2
       ·intro g hg hgc
        rcases hli5 g hg with h | h
        ·exact HG.out g h hgc
        ·omega
       ·refine ⟨ho5.trans (hb4.os.trans HII.out.bel.os),ht5.trans (hb4.tape.trans HII.out.bel.tape),hu5.trans (hb4.output.trans HII.out.bel.output),Nat.le_trans HII.out.bel.size (Nat.le_trans hs4 hz5),fun i hi => ?_⟩
        rw [hkk i (Nat.lt_of_lt_of_le hi HII.out.bel.size) (by omega) (fun e=>by have:=(HLT.out _ e).1;omega)]
        exact HII.out.bel.block i hi
       ·omega
      have HR:=Lib.hid hrun
      clear hb4 hv4 hrow4 hs4 hrun hb5 hrow5 hv5 hz5 hk5 ho5 ht5 hu5 hli5
      gi_wp2_with (gi_at_builtin;refine wpListIn_append rfl rfl rfl rfl rfl HR.out ?_)
      exact HF.out
     ·have hnb:(nameE x != 0) = true:=by rw [bne_iff_ne];exact hn
      have HST:Hid (wayW (startW cwd s) (pre ++ [x]) = none):=by rw [Hid,HSN.out,stepW,if_neg hx1,if_neg hx2,if_pos hn]
      clear hx1 hx2 hn HSN
      gi_wp2_with fail
      refine ⟨trivial,(CallsIn.inRound l' (callsIn_wide.2 (HN.out _))).mono ?_⟩
      rintro e w4 ⟨rfl,hb4⟩
      have hr1:=blk_below HII.out.r1 hb4
      have hr2:=blk_below HII.out.r2 hb4
      have c1:w4.cell? ⟨w.heap.size,0,none⟩ = some (.string ⟨#[]⟩):=by rw [blk_cell hr1];rfl
      have c2:w4.cell? ⟨w.heap.size + 1,0,none⟩ = some (.int .i64 0):=by rw [blk_cell hr2];rfl
      have f1:w4.frozen? ⟨w.heap.size,0,none⟩ = false:=blk_free hr1 0
      have f2:w4.frozen? ⟨w.heap.size + 1,0,none⟩ = false:=blk_free hr2 0
      have HT:Hid (Turned [w.heap.size,w.heap.size + 1] W ((w4.setCell ⟨w.heap.size,0,none⟩ (.string ⟨#[]⟩)).setCell ⟨w.heap.size + 1,0,none⟩ (.int .i64 401))):=((Turned.of_below hb4).setCell (by simp) _).setCell (by simp) _
      have HQ1:Hid (((w4.setCell ⟨w.heap.size,0,none⟩ (.string ⟨#[]⟩)).setCell ⟨w.heap.size + 1,0,none⟩ (.int .i64 401)).heap[w.heap.size]? = some (.cells #[.string ⟨#[]⟩] 9 (0,0))):=by
       rw [Hid,blk_other (by omega)];exact blk_set hr1 0 _
      have HQ2:Hid (((w4.setCell ⟨w.heap.size,0,none⟩ (.string ⟨#[]⟩)).setCell ⟨w.heap.size + 1,0,none⟩ (.int .i64 401)).heap[w.heap.size + 1]? = some (.cells #[.int .i64 401] 26 (0,0))):=by
       have:(w4.setCell ⟨w.heap.size,0,none⟩ (.string ⟨#[]⟩)).heap[w.heap.size + 1]? = some (.cells #[.int .i64 0] 26 (0,0)):=by rw [blk_other (by omega)];exact hr2
       exact blk_set this 0 _
      clear hb4 hr1 hr2
      gi_wp2_with fail
      exact ⟨Keeps.of HT.out (fun b hb=>by simp at hb;omega) (by omega),rfl,HQ1.out,HQ2.out,HII.out.bel.trans (HT.out.below HII.out.bel.size (fun b hb=>by simp at hb;omega)),HST.out⟩
  case done =>
   intro D W hD hi hK
   rw [HZ.out] at hD
   obtain ⟨a,n,cp,ws,hv,hrow,hww,hg⟩:=hi.way
   have hbd:=HBD.out.1
   have hwl:=wayW_len _ _ _ hww
   have hjl:(joinL ws).length ≤ ws.length * 561:=inter_len 560 ws (fun q hq=>by
    rcases wayW_mem _ _ _ hww q hq with h | h
    ·have:q.length ≤ cwd.length:=by
      unfold startW at h
      split at h
      ·cases h
      ·unfold partsL at h
       split at h
       ·cases h
       ·exact ((pieces_bd cwd).2 q h).1
     omega
    ·have:=(HBD.out.2 q h).1;omega)
   have HJ:=Lib.hid (Join_any W _ _ ws hrow (by omega) (by omega))
   obtain ⟨rfl,-⟩:=hrow.drop
   have k0:W.cell? ⟨w1.heap.size,0,none⟩ = some (.slice a ws.length cp):=by rw [blk_cell hv];rfl
   have HCV:Hid (cleanR cwd s = if ws.length > 8 then ([],402) else if (joinL ws).length > 140 then ([],403) else (joinL ws,0)):=by rw [Hid,HCR.out,hww]
   have HII:=Lib.hid hi
   have HV3:=Lib.hid hv
   have hbig:=hi.big
   have zj:=str_size (joinL ws)
   clear hi hv hrow hww hg hbd HCR
   have hDl:=blk_lt hK
   go_wp2_with fail
   (with_reducible refine HJ.out.mono ?_)
   rintro e w4 ⟨rfl,hb4⟩
   have hr1:=blk_below HII.out.r1 hb4
   have hr2:=blk_below HII.out.r2 hb4
   have hv4:=blk_below HV3.out hb4
   have HK4:=Lib.hid (blk_below hK hb4)
   have HB4:Hid (Below w.heap.size w w4):=HII.out.bel.trans (hb4.mono HII.out.bel.size)
   have q0:w4.cell? ⟨w1.heap.size,0,none⟩ = some (.slice a ws.length cp):=by rw [blk_cell hv4];rfl
   have c1:w4.cell? ⟨w.heap.size,0,none⟩ = some (.string ⟨#[]⟩):=by rw [blk_cell hr1];rfl
   have c2:w4.cell? ⟨w.heap.size + 1,0,none⟩ = some (.int .i64 0):=by rw [blk_cell hr2];rfl
   have f1:w4.frozen? ⟨w.heap.size,0,none⟩ = false:=blk_free hr1 0
   have f2:w4.frozen? ⟨w.heap.size + 1,0,none⟩ = false:=blk_free hr2 0
   have HE1:Hid (∀ u v,(((w4.setCell ⟨w.heap.size,0,none⟩ u).setCell ⟨w.heap.size + 1,0,none⟩ v).putObj D (.deferred none)).cell? ⟨w.heap.size,0,none⟩ = some u):=fun u v=>by
    rw [World.cell?_of_block (w:=(w4.setCell ⟨w.heap.size,0,none⟩ u).setCell ⟨w.heap.size + 1,0,none⟩ v) (World.putObj_heap_other (by show w.heap.size ≠ D;omega))]
    rw [World.cell?_of_block (w:=w4.setCell ⟨w.heap.size,0,none⟩ u) (blk_other (by show w.heap.size ≠ w.heap.size + 1;omega) _ _),blk_cell (blk_set hr1 0 u)];rfl
   have HE2:Hid (∀ u v,(((w4.setCell ⟨w.heap.size,0,none⟩ u).setCell ⟨w.heap.size + 1,0,none⟩ v).putObj D (.deferred none)).cell? ⟨w.heap.size + 1,0,none⟩ = some v):=fun u v=>by
    rw [World.cell?_of_block (w:=(w4.setCell ⟨w.heap.size,0,none⟩ u).setCell ⟨w.heap.size + 1,0,none⟩ v) (World.putObj_heap_other (by show w.heap.size + 1 ≠ D;omega))]
    have:(w4.setCell ⟨w.heap.size,0,none⟩ u).heap[w.heap.size + 1]? = some (.cells #[.int .i64 0] 26 (0,0)):=by rw [blk_other (by omega)];exact hr2
    rw [blk_cell (blk_set this 0 v)];rfl
   have HKK:Hid (∀ u v,((w4.setCell ⟨w.heap.size,0,none⟩ u).setCell ⟨w.heap.size + 1,0,none⟩ v).heap[D]? = some (.deferred (some []))):=fun u v=>by
    rw [blk_other (by omega),blk_other (by omega)];exact HK4.out
   have HBB:Hid (∀ u v,Below w.heap.size w (((w4.setCell ⟨w.heap.size,0,none⟩ u).setCell ⟨w.heap.size + 1,0,none⟩ v).putObj D (.deferred none))):=fun u v =>
    ((HB4.out.setCell (by simp) u).setCell (by simp) v).trans ⟨rfl,rfl,rfl,by simp,fun b hb=>World.putObj_heap_other (by omega)⟩
   clear hb4 hr1 hr2 hv4
   by_cases h8:8 < ws.length
   ·have HVV:Hid (cleanR cwd s = ([],402)):=by rw [Hid,HCV.out,if_pos h8]
    go_wp2_with fail
    refine ⟨by simp,.inl ⟨_,_,rfl,run_takeDeferred (HKK.out _ _),?_⟩⟩
    exact ⟨.tuple #[.string ⟨#[]⟩,.int .i64 402],by simp [results,Tryz.results123,go_sem,HE1.out,HE2.out],by rw [HVV.out],HBB.out _ _⟩
   ·by_cases h140:140 < (joinL ws).length
    ·have HVV:Hid (cleanR cwd s = ([],403)):=by rw [Hid,HCV.out,if_neg h8,if_pos h140]
     go_wp2_with fail
     refine ⟨by simp,.inl ⟨_,_,rfl,run_takeDeferred (HKK.out _ _),?_⟩⟩
     exact ⟨.tuple #[.string ⟨#[]⟩,.int .i64 403],by simp [results,Tryz.results123,go_sem,HE1.out,HE2.out],by rw [HVV.out],HBB.out _ _⟩
    ·have HVV:Hid (cleanR cwd s = (joinL ws,0)):=by rw [Hid,HCV.out,if_neg h8,if_neg h140]
     go_wp2_with fail
     refine ⟨by simp,.inl ⟨_,_,rfl,run_takeDeferred (HKK.out _ _),?_⟩⟩
     exact ⟨.tuple #[sv (joinL ws),.int .i64 0],by simp [results,Tryz.results123,go_sem,HE1.out,HE2.out],by rw [HVV.out],HBB.out _ _⟩
  case stop =>
   rintro D k pre W hD hpre ⟨rfl,h1,h2,h3,h4⟩ hK
   rw [HZ.out] at hD
   have HV:Hid (cleanR cwd s = ([],401)):=by
    obtain ⟨qs,hq⟩:=hpre
    rw [Hid,HCR.out,← hq,wayW_none qs h4]
   have HE1:Hid ((W.putObj D (.deferred none)).cell? ⟨w.heap.size,0,none⟩ = some (.string ⟨#[]⟩)):=by
    rw [Hid,World.cell?_of_block (w:=W) (World.putObj_heap_other (by show w.heap.size ≠ D;omega)),blk_cell h1];rfl
   have HE2:Hid ((W.putObj D (.deferred none)).cell? ⟨w.heap.size + 1,0,none⟩ = some (.int .i64 401)):=by
    rw [Hid,World.cell?_of_block (w:=W) (World.putObj_heap_other (by show w.heap.size + 1 ≠ D;omega)),blk_cell h2];rfl
   have HBB:Hid (Below w.heap.size w (W.putObj D (.deferred none))):=h3.trans ⟨rfl,rfl,rfl,by simp,fun b hb=>World.putObj_heap_other (by omega)⟩
   clear h1 h2 h3 h4
   gi_wp2_with fail
   refine ⟨by simp,.inl ⟨_,_,rfl,run_takeDeferred hK,?_⟩⟩
   exact ⟨.tuple #[.string ⟨#[]⟩,.int .i64 401],by simp [results,Tryz.results123,go_sem,HE1.out,HE2.out],by rw [HV.out],HBB.out⟩
end Go.Proofs.YtifhnpkapgaboaaGreat.path
namespace Go.Proofs.YtifhnpkapgaboaaGreat.path
open Go.RowKit Go.Shelf
open heap
theorem Num_any (n:Int) (w:World):Calls Tryz.prog 10 #[.int .i64 n] w fun e w'=>e = .returned (.int .i64 n) ∧ w = w':=by
 go_enter Tryz.func10,Tryz.ntmps10
 go_wp2
 go_ret
 exact ⟨rfl,rfl⟩
theorem Clean_any (cwd s:List UInt8) (w:World) (hc:cwd.length ≤ 9223372036854775806) (hs:s.length ≤ 9223372036854775806) :
  Calls Tryz.prog 123 #[sv cwd,sv s] w fun e w'=>e = .returned (.tuple #[sv (cleanR cwd s).1,.int .i64 (cleanR cwd s).2]) ∧ Below w.heap.size w w':=by
 cases h1:cleanB cwd with
 | false =>
  have e:cleanR cwd s = ([],401):=by simp [cleanR,h1]
  rw [e];exact Clean_unclean cwd s w hc h1
 | true =>
  by_cases h2:s = []
  ·have e:cleanR cwd s = ([],400):=by simp [cleanR,h1,h2]
   rw [e];exact Clean_short cwd s 400 w hc hs h1 (.inl ⟨h2,rfl⟩)
  ·by_cases h3:560 < s.length
   ·have e:cleanR cwd s = ([],403):=by simp [cleanR,h1,h2,h3]
    rw [e];exact Clean_short cwd s 403 w hc hs h1 (.inr ⟨h2,h3,rfl⟩)
   ·exact Clean_main cwd s w hc h1 h2 (by omega)
theorem join_s (a b:List UInt8):(⟨a.toArray⟩:ByteArray) ++ ⟨b.toArray⟩ = ⟨(a ++ b).toArray⟩:=by
 apply ByteArray.ext
 simp [ByteArray.data_append]
def belowB (s t:List UInt8):Bool:=decide (t = []) || (decide (s = t) || Lib.hasPrefix s (t ++ [47]))
theorem ret_bool {a b:Bool} (h:a = b):Ending.returned (.bool a) = .returned (.bool b):=by rw [h]
set_option maxRecDepth 100000 in
theorem Below_any (s t:List UInt8) (w:World) (ht:t.length ≤ 9223372036854775806) :
  Calls Tryz.prog 124 #[sv s,sv t] w fun e w'=>e = .returned (.bool (belowB s t)) ∧ Below w.heap.size w w':=by
 have z:=str_size t
 by_cases h0:t = []
 ·have HV:Hid (belowB s t = true):=by simp [Hid,belowB,h0]
  subst h0
  go_enter Tryz.func124,Tryz.ntmps124
  go_wp2
  go_ret
  exact ⟨ret_bool HV.out.symm,Below.refl _ _⟩
 ·have b0:t.isEmpty = false:=by cases t <;> simp_all
  have b0':(t == []) = false:=by rw [beq_eq_false_iff_ne];exact h0
  by_cases h1:s = t
  ·have HV:Hid (belowB s t = true):=by simp [Hid,belowB,h1]
   subst h1
   clear h0
   go_enter Tryz.func124,Tryz.ntmps124
   go_wp2
   go_ret
   exact ⟨ret_bool HV.out.symm,Below.refl _ _⟩
  ·have b1:(s == t) = false:=by rw [beq_eq_false_iff_ne];exact h1
   have HV:Hid (belowB s t = Lib.hasPrefix s (t ++ [47])):=by simp [Hid,belowB,h0,h1]
   have HP:Hid (∀ W:World,Calls Tryz.prog 80 #[.string ⟨s.toArray⟩,.string ⟨(t ++ [47]).toArray⟩] W fun e w'=>e = .returned (.bool (Lib.hasPrefix s (t ++ [47]))) ∧ w' = W):=fun W=>by
    have h:=Tryz.strings_HasPrefix ⟨s.toArray⟩ ⟨(t ++ [(47:UInt8)]).toArray⟩ W
    have e2:(⟨(t ++ [(47:UInt8)]).toArray⟩:ByteArray).data.toList = t ++ [47]:=by simp
    rw [e2] at h
    exact h
   have hj:(⟨t.toArray⟩:ByteArray) ++ ⟨#[47]⟩ = ⟨(t ++ [47]).toArray⟩:=join_s t [47]
   clear h0 h1
   generalize Lib.hasPrefix s (t ++ [47]) = r at *
   generalize (⟨(t ++ [47]).toArray⟩:ByteArray) = T at *
   go_enter Tryz.func124,Tryz.ntmps124
   go_wp2_with fail
   (with_reducible refine (HP.out _).mono ?_);rintro e w1 ⟨rfl,rfl⟩
   go_wp2
   go_ret
   exact ⟨ret_bool HV.out.symm,Below.refl _ _⟩
end Go.Proofs.YtifhnpkapgaboaaGreat.path
