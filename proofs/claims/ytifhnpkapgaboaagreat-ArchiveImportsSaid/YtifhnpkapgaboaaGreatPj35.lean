/-
  Proved: may an entry be applied; a clean path's names; the new tree and the empty field. Conditions: as each theorem says.
-/
import Derived.Test.YtifhnpkapgaboaaGreatPj34
import Derived.Test.YtifhnpkapgaboaaGreatPj8
set_option linter.unusedVariables false
set_option linter.unusedSimpArgs false
namespace Go.Proofs.YtifhnpkapgaboaaGreat.doc
open Go Go.RowKit
open heap
open fld
open arch (Ent e0 entV entO)
open path (sv str_size SRow joinL)
set_option maxRecDepth 100000
theorem clean_split (l:Nm) (h:path.cleanB l = true) (h0:l ≠ []):∃ qs n,Good (qs ++ [n]) ∧ l = joinL (qs ++ [n]):=by
 have hp:=((path.clean_parts l).1 h).2.2
 have he:path.partsL l = path.piecesL l:=by unfold path.partsL;rw [if_neg h0]
 rw [he] at hp
 have hne:=path.piecesL_ne l
 refine ⟨(path.piecesL l).dropLast,(path.piecesL l).getLast hne,?_,?_⟩
 ·rw [List.dropLast_concat_getLast];exact hp
 ·rw [List.dropLast_concat_getLast,arch.join_pieces]
theorem Rel.new (b:Nat):Rel ⟨[],[]⟩ [rootN b]:=by
 refine ⟨WF.new b,?_,rfl,?_,fun _ _=>rfl⟩
 ·intro x hx
  rw [List.mem_singleton.1 hx]
  intro p hp
  cases hp
 ·intro x hx
  rw [List.mem_singleton.1 hx];rfl
set_option maxHeartbeats 2000000 in
theorem may_any {F:Fld} {M:DM} {w:World} {base t:Nat} (hR:Rel F M) (h:TreeP w base t M) (hM:M.length ≤ 1000000000) (e:Ent) (qs:List Nm) (n:Nm) (hg:Good (qs ++ [n])) (hep:e.path = joinL (qs ++ [n])) (hl:e.path.length ≤ 2000000) :
  Calls Tryz.prog 111 #[pV t,entV e] w fun r w'=>r = .returned (.bool (applyF F e).isSome) ∧ Below w.heap.size w w':=by
 have hl':=hl
 rw [hep] at hl'
 have HS:Hid (∀ W:World,Calls Tryz.prog 55 #[sv e.path] W fun r w'=>r = .returned (.tuple #[sv (joinL qs),sv n]) ∧ Below W.heap.size W w'):=fun W=>by rw [hep];exact Split_join qs n hg W hl'
 have HF1:Hid (∀ W:World,Below w.heap.size w W → Calls Tryz.prog 25 #[pV t,sv (joinL qs)] W fun r w'=>r = .returned (fV (findM M qs)) ∧ Below W.heap.size W w'):=fun W k=>Find_any qs hg.left W (h.below k) hM (Nat.le_trans (join_len _ _) hl')
 have HF2:Hid (∀ W:World,Below w.heap.size w W → Calls Tryz.prog 25 #[pV t,sv e.path] W fun r w'=>r = .returned (fV (findM M (qs ++ [n]))) ∧ Below W.heap.size W w'):=fun W k=>by rw [hep];exact Find_any (qs ++ [n]) hg W (h.below k) hM hl'
 have HND:Hid (∀ W:World,Below w.heap.size w W → ∀ x ∈ M,W.cell? ⟨x.b,1,none⟩ = some (.int .i64 x.kind) ∧ W.frozen? ⟨x.b,2,none⟩ = false ∧ ∃ v,W.cell? ⟨x.b,2,none⟩ = some v):=fun W k x hx=>by
  obtain ⟨id,up,hb⟩:=((h.below k).node x hx).blk
  exact ⟨by rw [blk_cell hb];rfl,blk_free hb 2,_,by rw [blk_cell hb];rfl⟩
 have HB0:Hid (Below w.heap.size w (w.alloc (entO e))):=(Below.refl _ _).alloc (Nat.le_refl _) _
 have hx0:=blk_new w (entO e)
 have HX:Hid (∀ W:World,Below (w.heap.size + 1) (w.alloc (entO e)) W → Below w.heap.size w W ∧ W.heap[w.heap.size]? = some (entO e) ∧ W.cell? ⟨w.heap.size,0,none⟩ = some (sv e.path) ∧ W.cell? ⟨w.heap.size,1,none⟩ = some (.int .i64 e.kind) ∧ W.cell? ⟨w.heap.size,2,none⟩ = some (.int .i64 e.mode) ∧ W.cell? ⟨w.heap.size,3,none⟩ = some (sv e.data)):=fun W k=>by
  have hb:=(k.block w.heap.size (by omega)).trans hx0
  exact ⟨HB0.out.trans (k.mono (by omega)),hb,by rw [blk_cell hb];rfl,by rw [blk_cell hb];rfl,by rw [blk_cell hb];rfl,by rw [blk_cell hb];rfl⟩
 have c0:(w.alloc (entO e)).cell? ⟨w.heap.size,0,none⟩ = some (sv e.path):=by rw [blk_cell hx0];rfl
 have HT:=Lib.hid h
 have HG:=Lib.hid hg
 have HEP:=Lib.hid hep
 have HRR:=Lib.hid hR
 have HM:=Lib.hid hM
 have HL:=Lib.hid hl'
 clear h hM hg hep hl hl' hx0 hR
 cases hu:findM M qs with
 | none =>
  have HO:Hid (applyF F e = none):=HRR.out.apply_up qs n HG.out e HEP.out (fun ⟨u,h1,_⟩=>by rw [hu] at h1;cases h1)
  rw [hu] at HF1
  simp only [fV] at HF1
  clear hu HF2
  generalize joinL qs = us at *
  go_enter Tryz.func111,Tryz.ntmps111
  go_wp2_with fail
  (with_reducible refine (HS.out _).mono ?_);rintro r w1 ⟨rfl,hb1⟩
  have HC1:Hid (Below (w.heap.size + 1) (w.alloc (entO e)) w1):=hb1.mono (by simp)
  have HB1:Hid (Below w.heap.size w w1):=(HX.out w1 HC1.out).1
  clear hb1
  go_wp2_with fail
  (with_reducible refine (HF1.out _ HB1.out).mono ?_);rintro r w2 ⟨rfl,hb2⟩
  have HC2:Hid (Below (w.heap.size + 1) (w.alloc (entO e)) w2):=HC1.out.trans (hb2.mono (by have:=HC1.out.size;simp at this;omega))
  have HB2:Hid (Below w.heap.size w w2):=(HX.out w2 HC2.out).1
  clear hb2 c0
  obtain ⟨-,-,c0,c1,-⟩:=HX.out w2 HC2.out
  go_wp2_with fail
  go_ret
  exact ⟨by rw [HO.out];rfl,HB2.out⟩
 | some u =>
  obtain ⟨huM,hup⟩:=findM_some hu
  have HU:=Lib.hid hu
  rw [hu] at HF1
  simp only [fV] at HF1
  by_cases huk:u.kind = 1
  ·have hu1:((u.kind:Int) == 1) = true:=by rw [huk];rfl
   by_cases hk4:e.kind = 4
   ·have d4:(e.kind != 4) = false:=by rw [hk4];rfl
    cases hy:findM M (qs ++ [n]) with
    | none =>
     have HO:Hid (applyF F e = none):=HRR.out.apply_none qs n HG.out e HEP.out hk4 hy
     rw [hy] at HF2
     simp only [fV] at HF2
     clear hy hu huk hk4
     generalize joinL qs = us at *
     go_enter Tryz.func111,Tryz.ntmps111
     go_wp2_with fail
     (with_reducible refine (HS.out _).mono ?_);rintro r w1 ⟨rfl,hb1⟩
     have HC1:Hid (Below (w.heap.size + 1) (w.alloc (entO e)) w1):=hb1.mono (by simp)
     have HB1:Hid (Below w.heap.size w w1):=(HX.out w1 HC1.out).1
     clear hb1
     go_wp2_with fail
     (with_reducible refine (HF1.out _ HB1.out).mono ?_);rintro r w2 ⟨rfl,hb2⟩
     have HC2:Hid (Below (w.heap.size + 1) (w.alloc (entO e)) w2):=HC1.out.trans (hb2.mono (by have:=HC1.out.size;simp at this;omega))
     have HB2:Hid (Below w.heap.size w w2):=(HX.out w2 HC2.out).1
     clear hb2 c0
     obtain ⟨-,-,c0,c1,-⟩:=HX.out w2 HC2.out
     have cu:=(HND.out _ HB2.out u huM).1
     go_wp2_with fail
     (with_reducible refine (HF2.out _ HB2.out).mono ?_);rintro r w3 ⟨rfl,hb3⟩
     have HB3:Hid (Below w.heap.size w w3):=HB2.out.trans (hb3.mono HB2.out.size)
     clear hb3 cu c0 c1
     go_wp2_with fail
     go_ret
     exact ⟨by rw [HO.out];rfl,HB3.out⟩
    | some y =>
     have HO:Hid (applyF F e = some (goneF F e.path)):=HRR.out.apply_gone HG.out HEP.out hu huk hy hk4
     rw [hy] at HF2
     simp only [fV] at HF2
     clear hy hu huk hk4
     generalize joinL qs = us at *
     go_enter Tryz.func111,Tryz.ntmps111
     go_wp2_with fail
     (with_reducible refine (HS.out _).mono ?_);rintro r w1 ⟨rfl,hb1⟩
     have HC1:Hid (Below (w.heap.size + 1) (w.alloc (entO e)) w1):=hb1.mono (by simp)
     have HB1:Hid (Below w.heap.size w w1):=(HX.out w1 HC1.out).1
     clear hb1
     go_wp2_with fail
     (with_reducible refine (HF1.out _ HB1.out).mono ?_);rintro r w2 ⟨rfl,hb2⟩
     have HC2:Hid (Below (w.heap.size + 1) (w.alloc (entO e)) w2):=HC1.out.trans (hb2.mono (by have:=HC1.out.size;simp at this;omega))
     have HB2:Hid (Below w.heap.size w w2):=(HX.out w2 HC2.out).1
     clear hb2 c0
     obtain ⟨-,-,c0,c1,-⟩:=HX.out w2 HC2.out
     have cu:=(HND.out _ HB2.out u huM).1
     go_wp2_with fail
     (with_reducible refine (HF2.out _ HB2.out).mono ?_);rintro r w3 ⟨rfl,hb3⟩
     have HB3:Hid (Below w.heap.size w w3):=HB2.out.trans (hb3.mono HB2.out.size)
     clear hb3 cu c0 c1
     go_wp2_with fail
     go_ret
     exact ⟨by rw [HO.out];rfl,HB3.out⟩
   ·have d4:(e.kind != 4) = true:=by rw [bne_iff_ne];exact hk4
    have HO:Hid ((applyF F e).isSome = true):=by
     by_cases hm:∃ y,findM M (qs ++ [n]) = some y ∧ e.kind = 1 ∧ y.kind = 1
     ·obtain ⟨y,hy,h1,h2⟩:=hm
      obtain ⟨F',h3,-⟩:=HRR.out.apply_mode HG.out HEP.out hu huk hy h1 h2
      rw [Hid,h3];rfl
     ·rw [Hid,apply_put HRR.out HG.out HEP.out hu huk hk4 (fun y hy hh=>hm ⟨y,hy,hh⟩)];rfl
    clear hu huk hk4 HF2
    generalize joinL qs = us at *
    go_enter Tryz.func111,Tryz.ntmps111
    go_wp2_with fail
    (with_reducible refine (HS.out _).mono ?_);rintro r w1 ⟨rfl,hb1⟩
    have HC1:Hid (Below (w.heap.size + 1) (w.alloc (entO e)) w1):=hb1.mono (by simp)
    have HB1:Hid (Below w.heap.size w w1):=(HX.out w1 HC1.out).1
    clear hb1
    go_wp2_with fail
    (with_reducible refine (HF1.out _ HB1.out).mono ?_);rintro r w2 ⟨rfl,hb2⟩
    have HC2:Hid (Below (w.heap.size + 1) (w.alloc (entO e)) w2):=HC1.out.trans (hb2.mono (by have:=HC1.out.size;simp at this;omega))
    have HB2:Hid (Below w.heap.size w w2):=(HX.out w2 HC2.out).1
    clear hb2 c0
    obtain ⟨-,-,c0,c1,-⟩:=HX.out w2 HC2.out
    have cu:=(HND.out _ HB2.out u huM).1
    go_wp2_with fail
    go_ret
    exact ⟨by rw [HO.out];rfl,HB2.out⟩
  ·have HO:Hid (applyF F e = none):=HRR.out.apply_up qs n HG.out e HEP.out (fun ⟨u',h1,h2⟩=>by rw [hu] at h1;rw [← Option.some.inj h1] at h2;exact huk h2)
   have hu1:(u.kind == 1) = false:=by rw [beq_eq_false_iff_ne];exact huk
   clear hu HF2 huk
   generalize joinL qs = us at *
   go_enter Tryz.func111,Tryz.ntmps111
   go_wp2_with fail
   (with_reducible refine (HS.out _).mono ?_);rintro r w1 ⟨rfl,hb1⟩
   have HC1:Hid (Below (w.heap.size + 1) (w.alloc (entO e)) w1):=hb1.mono (by simp)
   have HB1:Hid (Below w.heap.size w w1):=(HX.out w1 HC1.out).1
   clear hb1
   go_wp2_with fail
   (with_reducible refine (HF1.out _ HB1.out).mono ?_);rintro r w2 ⟨rfl,hb2⟩
   have HC2:Hid (Below (w.heap.size + 1) (w.alloc (entO e)) w2):=HC1.out.trans (hb2.mono (by have:=HC1.out.size;simp at this;omega))
   have HB2:Hid (Below w.heap.size w w2):=(HX.out w2 HC2.out).1
   clear hb2 c0
   obtain ⟨-,-,c0,c1,-⟩:=HX.out w2 HC2.out
   have cu:=(HND.out _ HB2.out u huM).1
   go_wp2_with fail
   go_ret
   exact ⟨by rw [HO.out];rfl,HB2.out⟩
end Go.Proofs.YtifhnpkapgaboaaGreat.doc
