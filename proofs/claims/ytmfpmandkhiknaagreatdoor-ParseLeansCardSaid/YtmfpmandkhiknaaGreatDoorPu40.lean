/-
  Proved: the Go function oriellaw19.ParseLeans returns true for every input, and its arguments read afterwards as before. Conditions: none. The frame follows the kit's template.
-/
import Derived.Test.YtmfpmandkhiknaaGreatDoorRows
import Derived.Test.YtmfpmandkhiknaaGreatDoorPu39
import Derived.Test.YtmfpmandkhiknaaGreatDoorPu34
import Derived.WalkKit
import Derived.ProofKit
import Derived.OpenShut
import Derived.ShutString
import Derived.Below
import Derived.Lib.SmallJoins
import Derived.SizedLaws
import Derived.Test.YtmfpmandkhiknaaGreatDoorTie
import Derived.Test.YtmfpmandkhiknaaGreatDoorCards
import Derived.LaidMore
import Derived.Lay
import Derived.SevenTiedAt
import Derived.Stop.Joined
set_option linter.unusedVariables false
set_option linter.unusedSimpArgs false
namespace Go.Proofs.YtmfpmandkhiknaaGreatDoor.parseLeans
open Go.ChangeShapes Go.WideShapes Go.ChangeAt Go.RowKit Go.Joins
open Go.ChangeMaps (open_string shut_string)
theorem own:ownKnob Tryz.prog.godebug = none:=by kernel_rfl
theorem laidOut:laidOutB Tryz.prog = true:=by kernel_rfl
theorem walk (q0:Value) (P0:List Int) (w:World) (w0:qar.PV w q0 P0) (hL:laidMetH Tryz.prog Rows.parseLeansRow.laid w) (hM:∃ m:Int,w.cell? ⟨1,0,none⟩ = some (.int .i64 m)) :
  Calls Tryz.prog 9 #[q0] w fun e w'=>e = .returned (.bool true) ∧ Below w.heap.size w w':=by
 have h2:=hL
 rw [MakeChecks.laidMetH_plain _ _ _ (by kernel_rfl)] at h2
 exact qar.parseLeans_any q0 P0 w w0 ⟨lex.tab_laid w _ (laidMet.tail (laidMet.tail h2)),hM⟩
set_option maxRecDepth 100000 in
theorem lifted (os:Os) (started:os.Started) (H:Type) (enc:TypeId × Value → H) :
  ReturnsInHanded {} Tryz.checked os 9 .any (fun w args=>(Rows.parseLeansSpec.pre enc Tryz.prog Tryz.f9 Rows.parseLeansRow.domain false w args ∧ laidMetH Tryz.prog Rows.parseLeansRow.laid w) ∧ sizedMet enc Tryz.prog Tryz.f9 (OpenSpec.ofChange Rows.parseLeansSpec) false w args)
   (Rows.parseLeansSpec.post enc Tryz.prog Tryz.f9 false true false false):=by
 refine hand.wrap (C:=Tryz.checked) (X:=fun w _=>laidMetH Tryz.prog Rows.parseLeansRow.laid w) (fun _ _ _ hh h=>h.of_heap hh) own started (by kernel_rfl) Tryz.func9
  (ChangeSpec.witness_shaped (enc:=enc) (C:=Tryz.checked) (os:=os) (X:=fun w _=>laidMetH Tryz.prog Rows.parseLeansRow.laid w) false (World.laidAll Tryz.prog os Rows.parseLeansRow.laid) #[.slice none 0 0] 8 (World.laidAll_os _ _ _)
   (World.shaped_of_ZipB (by kernel_rfl) (by kernel_rfl)) (by kernel_rfl) (by kernel_rfl) (by kernel_rfl)
   (by rw [MakeChecks.laidMetH_plain _ _ _ (by kernel_rfl)];exact laidMet_laidAll _ (by kernel_rfl) (by kernel_rfl))) ?_
 intro W base args ds gs before hval0 hW hsz0 hL hsh
 have hval:∀ (j:Nat) t v,Tryz.f9.params[j]? = some t → args[j]? = some v → Value.okWide Tryz.prog W .any base t v:=hval0
 have hsz:(DataW.weightsEach Tryz.prog (Tryz.f9.params.toList ++ Rows.parseLeansSpec.plain.varTypes Tryz.prog) (ds ++ gs)).all (· ≤ reachBytes) = true:=hsz0
 have hW':=hW
 obtain ⟨p,q,hA0,hV,rfl,hfz,hnd⟩:=hW
 have hA:DataW.TrodAll enc Tryz.prog W 0 (fun _=>true) true Tryz.f9.params.toList args.toList ds p:=hA0
 rw [Tryz.params9] at hA hval hsz
 obtain ⟨v0,vs0,d0,ds0,p0,q0,hargs,rfl,rfl,h0,r0⟩:=trodAll_cons hA
 obtain ⟨rfl,rfl,rfl⟩:=trodAll_nil r0
 obtain rfl:args = #[v0]:=by cases args;simp_all
 obtain ⟨rfl,rfl⟩:=trodVars_none hV
 have k0:=h0
 have lt0:∀ x ∈ p0,x.block < W.heap.size:=by obtain ⟨m,hm⟩:=k0;exact DataW.trod_lt m _ _ _ hm
 obtain ⟨a0,len0,cap0,rfl⟩:=okWide_slice Tryz.underlying69 (hval 0 69 v0 rfl rfl)
 obtain ⟨fuel0,hf0⟩:=id h0
 obtain ⟨P0,pv0⟩:=qar.picks_open (by simpa [Value.cells] using hf0)
 clear hf0
 generalize Value.slice a0 len0 cap0 = q0 at *
 clear hA0
 refine (walk q0 P0 W pv0 hL (hand.maxLen_cell W hsh)).mono fun e W' ⟨he,hg⟩ => ?_
 subst he
 exact ⟨_,rfl,_,_,_,[],_,[],hW',trodAll_mk1 (shut_bool Tryz.underlying4 _),(trodAll_cons_mk (Below.trod laidOut (by kernel_rfl) (of_decide_eq_true (by kernel_rfl)) k0 hg lt0) trodAll_mk0),rfl,hg.frame _,fun h=>by cases h⟩
theorem said:Rows.ParseLeansSaid:=
 OpenClaim.holds_of_wide 9 Tryz.f9 rfl rfl rfl rfl rfl rfl rfl ⟨rfl,rfl,rfl,rfl,rfl⟩ rfl rfl rfl rfl rfl (by kernel_rfl) Tryz.func9 (by kernel_rfl)
  (of_decide_eq_true (by kernel_rfl)) (by unfold Func.isWrapper;first | (rw [if_pos (by decide +kernel)];kernel_rfl) | (rw [if_neg (by decide +kernel)];exact ⟨rfl,rfl⟩))
  (fun os started H enc _=>lifted os started H enc)
theorem proved:Rows.ParseLeansCardSaid:=
 Claim7.holds_tied_plain_at .later [] [.data,.listed,.data,.pinned] true (true, "70727a3df7cd028c6fa5d94b8663c4bbf7337bd9b428a6f5e314e2615016bcfb") true said (fun _ h=>by cases h) (by kernel_rfl) (fun _ h=>by cases h) parseLeans_row_tie rfl ⟨rfl,rfl⟩ (by kernel_rfl) rfl
  (fun f fn hf hfn=>by
   obtain rfl:f = 9:=Option.some.inj ((show Tryz.prog.funcNamed "oriel/oriellaw19.ParseLeans" = some 9 by kernel_rfl).symm.trans hf) |>.symm
   obtain rfl:fn = Tryz.f9:=(Option.some.inj (Tryz.func9.symm.trans hfn)).symm
   exact ⟨by kernel_rfl,fun j t ht=>by
    rw [Tryz.params9] at ht
    have hm:t ∈ [69]:=by simpa using Array.mem_of_getElem? ht
    have hall:([69].all fun u => !Tryz.prog.wantsStandIn u) = true:=by kernel_rfl
    exact (show Tryz.prog.wantsStandIn t = false by simpa using List.all_eq_true.1 hall t hm)⟩)
  (by kernel_rfl)
#print axioms proved
end Go.Proofs.YtmfpmandkhiknaaGreatDoor.parseLeans
