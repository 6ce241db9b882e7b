/-
  Proved: ArchiveImports returns true. Conditions: as each theorem says.
-/
import Derived.Test.YtifhnpkapgaboaaGreatPj44
import Derived.Test.YtifhnpkapgaboaaGreatPj45
import Derived.Test.YtifhnpkapgaboaaGreatPj39
import Derived.Test.YtifhnpkapgaboaaGreatPj40
import Derived.Test.YtifhnpkapgaboaaGreatPj26
set_option linter.unusedVariables false
set_option linter.unusedSimpArgs false
namespace Go.Proofs.YtifhnpkapgaboaaGreat.arch
open Go Go.RowKit
open heap
open path (sv str_size)
open fld (tur_new)
set_option maxRecDepth 100000
def resI (R:Except Flt (List (List Ent))):List (List Ent) × Int × Int:=match R with
 | .error p=>([],p.1,p.2)
 | .ok ls=>(ls,0,0)
theorem dec_one {R:Except Flt (List (List Ent))} {w w':World} {e:Ending} (h:DecG GIm R w e w'):∃ (v:Value) (vs:List Value),e = .returned (.tuple #[.agg #[v],.int .i64 (resI R).2.1,.int .i64 (resI R).2.2]) ∧ LRow w' w.heap.size v (resI R).1 vs ∧ Below w.heap.size w w':=by
 cases R with
 | error p=>exact ⟨_,[],h.1,LRow.nil _ _,h.2⟩
 | ok ls =>
  obtain ⟨v,he,⟨vs,hr⟩,hb⟩:=h
  exact ⟨v,vs,he,hr,hb⟩
theorem dec_small {s:Nm}:(resI (decI s)).1.length ≤ 12 ∧ ∀ es ∈ (resI (decI s)).1,∀ e ∈ es,e.path.length ≤ 2000000:=by
 cases hR:decI s with
 | error p=>exact ⟨by simp [resI],fun es he=>by simp [resI] at he⟩
 | ok ls =>
  have h:=dec_enc hR
  have h0:(encI ls).2.2 = 0:=by rw [h]
  unfold encI at h0
  by_cases h1:12 < ls.length
  ·rw [if_pos h1] at h0;exact absurd h0 (by decide)
  ·rw [if_neg h1] at h0
   refine ⟨by simp only [resI];omega,?_⟩
   cases h2:maysI ls 0 with
   | some p=>rw [h2] at h0;exact absurd h0 (mays_ne _ _ h2)
   | none =>
    intro es hes e he
    have hf:=mays_all _ _ h2 es hes
    have:=(form_ok hf).2 e he
    omega
set_option maxHeartbeats 4000000 in
theorem imports_any (s:Nm) (w:World) (hs:s.length ≤ 1000000000000000000) :
  Calls Tryz.prog 4 #[sv s] w fun e w'=>e = .returned (.bool true) ∧ Below w.heap.size w w':=by
 have HDP:=Lib.hid (fun W=>(DecodeImage_any s W hs).mono (fun e w' h=>dec_one h))
 have HDD:=Lib.hid (fun W=>(rDecodeImage_any s W hs).mono (fun e w' h=>dec_one h))
 obtain ⟨hn,hp⟩:=dec_small (s:=s)
 generalize resI (decI s) = X at *
 obtain ⟨ls,at1,cd⟩:=X
 simp only at HDP HDD hn hp
 have HP:=Lib.hid hp
 clear hp
 go_enter Tryz.func4,Tryz.ntmps4
 go_wp2_with fail
 refine (HDP.out w).mono ?_;rintro e w1 ⟨va,vsa,rfl,hra,hb1⟩
 obtain ⟨Aa,ca,rfl,hla,hca⟩:=hra.lin
 have hna:Below w1.heap.size w1 (w1.alloc (.cells #[.slice Aa ls.length ca] 24 (0,0))):=(Below.refl _ _).alloc (Nat.le_refl _) _
 have HA:=Lib.hid (blk_new w1 (.cells #[.slice Aa ls.length ca] 24 (0,0)))
 have HRA:=Lib.hid (hra.low (S := []) (Turned.of_below hna) (by simp))
 have HVA:Hid (∀ u ∈ Value.slice Aa ls.length ca :: vsa,∀ g ∈ u.ownBlock.toList,w.heap.size ≤ g ∧ g < w1.heap.size):=fun u hu g hg=>by
  obtain ⟨h1,h2,-⟩:=hra.lt u hu g hg
  exact ⟨h1,h2⟩
 have HB1:Hid (Below w.heap.size w (w1.alloc (.cells #[.slice Aa ls.length ca] 24 (0,0)))):=hb1.trans (hna.mono hb1.size)
 have hz1:w.heap.size ≤ w1.heap.size:=hb1.size
 clear hra hla hb1 hna
 go_wp2_with fail
 change Calls _ _ _ (w1.alloc (.cells #[.slice Aa ls.length ca] 24 (0,0))) _
 have hz2:(w1.alloc (.cells #[.slice Aa ls.length ca] 24 (0,0))).heap.size = w1.heap.size + 1:=by simp
 generalize (w1.alloc (.cells #[.slice Aa ls.length ca] 24 (0,0))) = w2 at *
 refine (HDP.out w2).mono ?_;rintro e w3 ⟨vb,vsb,rfl,hrb,hb3⟩
 clear HDP
 obtain ⟨Ab,cb,rfl,hlb,hcb⟩:=hrb.lin
 have hnb:Below w3.heap.size w3 (w3.alloc (.cells #[.slice Ab ls.length cb] 24 (0,0))):=(Below.refl _ _).alloc (Nat.le_refl _) _
 have hb4:=hb3.trans (hnb.mono hb3.size)
 have HBX:=Lib.hid (blk_new w3 (.cells #[.slice Ab ls.length cb] 24 (0,0)))
 have HA4:=Lib.hid (blk_below HA.out hb4)
 have HRA4:=Lib.hid (HRA.out.low (S := []) (Turned.of_below hb4) (by simp))
 have HRB:=Lib.hid (hrb.low (S := []) (Turned.of_below hnb) (by simp))
 have HB4:Hid (Below w.heap.size w (w3.alloc (.cells #[.slice Ab ls.length cb] 24 (0,0)))):=HB1.out.trans (hb4.mono HB1.out.size)
 have hz3:w2.heap.size ≤ w3.heap.size:=hb3.size
 clear hrb hlb hb3 hnb hb4 HA HRA HB1
 go_wp2_with fail
 change Calls _ _ _ (w3.alloc (.cells #[.slice Ab ls.length cb] 24 (0,0))) _
 have hz4:(w3.alloc (.cells #[.slice Ab ls.length cb] 24 (0,0))).heap.size = w3.heap.size + 1:=by simp
 generalize (w3.alloc (.cells #[.slice Ab ls.length cb] 24 (0,0))) = w4 at *
 refine (HDD.out w4).mono ?_;rintro e w5 ⟨vu,vsu,rfl,hru,hb5⟩
 clear HDD
 obtain ⟨Au,cu,rfl,hlu,hcu⟩:=hru.lin
 have hnu:Below w5.heap.size w5 (w5.alloc (.cells #[.slice Au ls.length cu] 24 (0,0))):=(Below.refl _ _).alloc (Nat.le_refl _) _
 have hb6:=hb5.trans (hnu.mono hb5.size)
 have HU6:=Lib.hid (blk_new w5 (.cells #[.slice Au ls.length cu] 24 (0,0)))
 have HB6X:=Lib.hid (blk_below HBX.out hb6)
 have HA6:=Lib.hid (blk_below HA4.out hb6)
 have HRA6:=Lib.hid (HRA4.out.low (S := []) (Turned.of_below hb6) (by simp))
 have HRB6:=Lib.hid (HRB.out.low (S := []) (Turned.of_below hb6) (by simp))
 have HRU6:=Lib.hid (hru.low (S := []) (Turned.of_below hnu) (by simp))
 have HB6:Hid (Below w.heap.size w (w5.alloc (.cells #[.slice Au ls.length cu] 24 (0,0)))):=HB4.out.trans (hb6.mono HB4.out.size)
 have hz5:w4.heap.size ≤ w5.heap.size:=hb5.size
 clear hru hlu hb5 hnu hb6 HA4 HRA4 HB4 HBX HRB
 go_upto_region 4 with fail
 change Code.wp _ _ _ _ (w5.alloc (.cells #[.slice Au ls.length cu] 24 (0,0)))
 have hz6:(w5.alloc (.cells #[.slice Au ls.length cu] 24 (0,0))).heap.size = w5.heap.size + 1:=by simp
 generalize (w5.alloc (.cells #[.slice Au ls.length cu] 24 (0,0))) = w6 at *
 have a0:=blk_cell HA6.out 0
 have al:=blk_lt HA6.out
 have u0:=blk_cell HU6.out 0
 have ul:=blk_lt HU6.out
 simp only [List.getElem?_toArray,List.getElem?_cons_zero] at a0 u0
 have hSA:LIn w6 Aa ca ls ∧ LIn w6 Au cu ls:=by
  obtain ⟨A1,c1,h1,h2,-⟩:=HRA6.out.lin
  obtain ⟨A2,c2,h3,h4,-⟩:=HRU6.out.lin
  simp at h1 h3
  obtain ⟨rfl,rfl⟩:=h1
  obtain ⟨rfl,rfl⟩:=h3
  exact ⟨h2,h4⟩
 have HS1:=Lib.hid (SameImage_two ls Aa Au ca cu w6 hSA.1 hSA.2 hca hcu)
 clear hSA
 go_wp2_with fail
 refine HS1.out.mono ?_;rintro e w7 ⟨rfl,hb7⟩
 have HU7:=Lib.hid (blk_below HU6.out hb7)
 have HB7X:=Lib.hid (blk_below HB6X.out hb7)
 have HA7:=Lib.hid (blk_below HA6.out hb7)
 have HRA7:=Lib.hid (HRA6.out.low (S := []) (Turned.of_below hb7) (by simp))
 have HRB7:=Lib.hid (HRB6.out.low (S := []) (Turned.of_below hb7) (by simp))
 have HRU7:=Lib.hid (HRU6.out.low (S := []) (Turned.of_below hb7) (by simp))
 have HB7:Hid (Below w.heap.size w w7):=HB6.out.trans (hb7.mono HB6.out.size)
 clear hb7 HS1 HU6 HB6X HA6 HRA6 HRB6 HRU6 HB6 a0 al u0 ul
 go_wp2_with fail
 refine (Num_any _ _).mono ?_;rintro e w' ⟨rfl,rfl⟩
 go_wp2_with fail
 refine (Num_any _ _).mono ?_;rintro e w' ⟨rfl,rfl⟩
 have a0:=blk_cell HA7.out 0
 have al:=blk_lt HA7.out
 simp only [List.getElem?_toArray,List.getElem?_cons_zero] at a0
 have HSP:=Lib.hid (SpoilImage_any ls (.slice Aa ls.length ca) vsa _ w7 HRA7.out (by omega) HP.out)
 go_wp2_with fail
 refine HSP.out.mono ?_;rintro e w8 ⟨rfl,ht8⟩
 have hlow:∀ g ∈ vsa.flatMap fun u=>u.ownBlock.toList,w.heap.size ≤ g ∧ g < w1.heap.size:=fun g hg=>by
  obtain ⟨u,hu,hgu⟩:=List.mem_flatMap.1 hg
  exact HVA.out u (List.mem_cons_of_mem _ hu) g hgu
 have HU8:=Lib.hid (ht8.kept HU7.out (fun hm=>by have:=(hlow _ hm).2;omega))
 have HB8X:=Lib.hid (ht8.kept HB7X.out (fun hm=>by have:=(hlow _ hm).2;omega))
 have HRB8:=Lib.hid (HRB7.out.low ht8 (fun g hg=>by have:=(hlow _ hg).2;omega))
 have HRU8:=Lib.hid (HRU7.out.low ht8 (fun g hg=>by have:=(hlow _ hg).2;omega))
 have HB8:Hid (Below w.heap.size w w8):=HB7.out.trans (ht8.below HB7.out.size (fun g hg=>(hlow _ hg).1))
 clear ht8 hlow HSP HU7 HB7X HA7 HRA7 HRB7 HRU7 HB7 a0 al HVA
 have b0:=blk_cell HB8X.out 0
 have bl:=blk_lt HB8X.out
 have u0:=blk_cell HU8.out 0
 have ul:=blk_lt HU8.out
 simp only [List.getElem?_toArray,List.getElem?_cons_zero] at b0 u0
 have hSB:LIn w8 Ab cb ls ∧ LIn w8 Au cu ls:=by
  obtain ⟨A1,c1,h1,h2,-⟩:=HRB8.out.lin
  obtain ⟨A2,c2,h3,h4,-⟩:=HRU8.out.lin
  simp at h1 h3
  obtain ⟨rfl,rfl⟩:=h1
  obtain ⟨rfl,rfl⟩:=h3
  exact ⟨h2,h4⟩
 have HS2:=Lib.hid (SameImage_two ls Ab Au cb cu w8 hSB.1 hSB.2 hcb hcu)
 clear hSB
 go_wp2_with fail
 refine HS2.out.mono ?_;rintro e w9 ⟨rfl,hb9⟩
 have HB9:Hid (Below w.heap.size w w9):=HB8.out.trans (hb9.mono HB8.out.size)
 clear hb9 HS2 b0 bl u0 ul
 go_wp2_with fail
 refine (awake_any _).mono ?_;rintro e w10 ⟨rfl,hb⟩
 have HB10:=Lib.hid (HB9.out.trans (hb.mono HB9.out.size))
 clear hb
 go_wp2_with fail
 go_ret
 exact ⟨rfl,HB10.out⟩
end Go.Proofs.YtifhnpkapgaboaaGreat.arch
