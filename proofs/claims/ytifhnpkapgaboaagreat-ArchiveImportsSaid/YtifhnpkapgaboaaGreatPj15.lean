/-
  Proved: plain facts on reading a layer's stream: its least fault hangs on nothing behind it. Conditions: as each theorem says. No program is in sight.
  Proved: what the program's Encode and its reader's small functions do. Conditions: as each theorem says.
  Proved: what the program's reader's number and mark do. Conditions: as each theorem says.
-/
import Derived.Test.YtifhnpkapgaboaaGreatPj8
import Derived.Test.YtifhnpkapgaboaaGreatPj14
set_option linter.unusedVariables false
set_option linter.unusedSimpArgs false
namespace Go.Proofs.YtifhnpkapgaboaaGreat.arch
open Go Go.RowKit
open path (cleanB)
abbrev Flt:=Nat × Int
def num2 (s:Nm) (a:Nat):Nat:=(s.getD a 0).toNat + 256 * (s.getD (a + 1) 0).toNat
def sub (s:Nm) (a n:Nat):Nm:=(s.drop a).take n
def entD (s:Nm) (k:Int) (a:Nat) (es:List Ent):Except Flt (Ent × Nat):=
 if s.length < a + 1 then .error (s.length,1300)
 else if (s.getD a 0).toNat = 0 ∨ 140 < (s.getD a 0).toNat then .error (a,1303)
 else if s.length < a + 1 + (s.getD a 0).toNat then .error (s.length,1300)
 else if pathE es ⟨sub s (a + 1) (s.getD a 0).toNat,k,0,[]⟩ ≠ 0 then .error (a,pathE es ⟨sub s (a + 1) (s.getD a 0).toNat,k,0,[]⟩)
 else if s.length < a + 1 + (s.getD a 0).toNat + 2 then .error (s.length,1300)
 else if modeB k (num2 s (a + 1 + (s.getD a 0).toNat)) = false then .error (a + 1 + (s.getD a 0).toNat,1306)
 else if s.length < a + 1 + (s.getD a 0).toNat + 4 then .error (s.length,1300)
 else if lenB k (num2 s (a + 1 + (s.getD a 0).toNat + 2)) = false then .error (a + 1 + (s.getD a 0).toNat + 2,1307)
 else if s.length < a + 1 + (s.getD a 0).toNat + 4 + num2 s (a + 1 + (s.getD a 0).toNat + 2) then .error (s.length,1300)
 else if k = 3 ∧ (0:UInt8) ∈ sub s (a + 1 + (s.getD a 0).toNat + 4) (num2 s (a + 1 + (s.getD a 0).toNat + 2)) then .error (a + 1 + (s.getD a 0).toNat + 4,1308)
 else .ok (⟨sub s (a + 1) (s.getD a 0).toNat,k,num2 s (a + 1 + (s.getD a 0).toNat),sub s (a + 1 + (s.getD a 0).toNat + 4) (num2 s (a + 1 + (s.getD a 0).toNat + 2))⟩,a + 1 + (s.getD a 0).toNat + 4 + num2 s (a + 1 + (s.getD a 0).toNat + 2))
def layD (s:Nm):Nat → Nat → List Ent → Except Flt (List Ent × Nat)
 | 0,_,_=>.error (0,0)
 | f + 1,a,es =>
  if s.length < a + 1 then .error (s.length,1300)
  else if (s.getD a 0).toNat = 0 then .ok (es,a + 1)
  else if 5 < (s.getD a 0).toNat then .error (a,1302)
  else if 256 ≤ es.length then .error (a,1309)
  else match entD s (s.getD a 0).toNat (a + 1) es with
   | .error p=>.error p
   | .ok (e,b)=>layD s f b (es ++ [e])
def mkL:Nm := [79,82,76]
def decD (s:Nm):Except Flt (List Ent):=
 if 65536 < s.length then .error (0,1311)
 else if s.take 3 ≠ mkL then .error (0,1301)
 else match layD s (s.length + 1) 3 [] with
  | .error p=>.error p
  | .ok (es,a)=>if a < s.length then .error (a,1310) else .ok es
end Go.Proofs.YtifhnpkapgaboaaGreat.arch
namespace Go.Proofs.YtifhnpkapgaboaaGreat.arch
open Go.RowKit
open heap
open path (sv str_size cleanB cleanR belowB)
set_option maxRecDepth 100000
set_option maxHeartbeats 1000000 in
theorem Encode_any (es:List Ent) (b o c:Nat) (w:World) (h:EAt w b o es) (hc:es.length ≤ c) (hcm:c ≤ 9223372036854775807) (hp:∀ x ∈ es,small x) :
  Calls Tryz.prog 38 #[layV b o es.length c] w fun r w'=>r = .returned (.tuple #[sv (encL es).1,.int .i64 (encL es).2.1,.int .i64 (encL es).2.2]) ∧ Below w.heap.size w w':=by
 have HB:Hid (Below w.heap.size w (w.alloc (.cells #[.slice (some ⟨b,o,none⟩) es.length c] 44 (0,0)))):=(Below.refl _ _).alloc (Nat.le_refl _) _
 have HBX:=Lib.hid (blk_new w (.cells #[.slice (some ⟨b,o,none⟩) es.length c] 44 (0,0)))
 have HFM:=Lib.hid (fun W (hW:Below w.heap.size w W)=>May_any es b o c W (h.below hW) hc hcm hp)
 have HST:=Lib.hid (fun W (hW:Below w.heap.size w W) hf=>Laid_any es b o c W (h.below hW) hc hcm hf)
 clear h hc hcm hp
 go_enter Tryz.func38,Tryz.ntmps38
 go_wp2_with fail
 refine (HFM.out _ HB.out).mono ?_;rintro r w1 ⟨rfl,hb⟩
 have hbx:=blk_below HBX.out hb
 have q0:=blk_cell hbx 0
 have ql:=blk_lt hbx
 simp only [List.getElem?_toArray,List.getElem?_cons_zero] at q0
 have HB1:Hid (Below w.heap.size w w1):=HB.out.trans (hb.mono HB.out.size)
 clear hb HBX HFM HB hbx
 by_cases hf:(formL es).2 = 0
 ·have HF:=Lib.hid hf
  have HE:Hid (encL es = if 65536 < (streamL es).length then ([],0,1311) else (streamL es,0,0)):=by unfold Hid encL;rw [if_neg (by simp [hf])]
  rw [hf]
  clear hf
  go_wp2_with fail
  refine (HST.out _ HB1.out HF.out).mono ?_;rintro r w2 ⟨rfl,hb⟩
  have HB2:Hid (Below w.heap.size w w2):=HB1.out.trans (hb.mono HB1.out.size)
  have zs:=str_size (streamL es)
  clear hb q0 ql
  by_cases hl:65536 < (streamL es).length
  ·rw [if_pos hl] at HE
   have d1:decide (65536 < ((streamL es).length:Int)) = true:=decide_eq_true (by omega)
   clear hl
   go_wp2_with fail
   go_ret3
   exact ⟨by rw [HE.out];rfl,HB2.out⟩
  ·rw [if_neg hl] at HE
   have d1:decide (65536 < ((streamL es).length:Int)) = false:=decide_eq_false (by omega)
   clear hl
   go_wp2_with fail
   go_ret3
   exact ⟨by rw [HE.out];rfl,HB2.out⟩
 ·have hfb:((formL es).2 != 0) = true:=by simp [bne,hf]
  have HE:Hid (encL es = ([],formL es)):=by unfold Hid encL;rw [if_pos hf]
  clear hf
  go_wp2_with fail
  go_ret3
  exact ⟨by rw [HE.out];rfl,HB1.out⟩
abbrev wrongV (a:Nat) (c:Int):Value:=.iface 139 (.agg #[.int .i64 a,.int .i64 c])
theorem fail_no (a c:Int) (w:World):Calls Tryz.prog 44 #[.bool false,.int .i64 a,.int .i64 c] w fun e w'=>e = .returned (.tuple #[]) ∧ w = w':=by
 go_enter Tryz.func44,Tryz.ntmps44
 go_wp2_with fail
 go_end0
 exact ⟨rfl,rfl⟩
theorem fail_yes (a:Nat) (c:Int) (w:World):Calls Tryz.prog 44 #[.bool true,.int .i64 a,.int .i64 c] w fun e w'=>e = .panicked [{ v:=wrongV a c,recovered:=false }] ∧ w = w':=by
 go_enter Tryz.func44,Tryz.ntmps44
 go_wp2_with fail
 exact ⟨rfl,rfl,rfl⟩
abbrev RdO (s:Nm) (a:Nat):Obj:=.cells #[.string ⟨s.toArray⟩,.int .i64 a] 86 (0,0)
abbrev PP (q:Nat):Value:=.pointer (some ⟨q,0,none⟩)
def RdP {α:Type} (q:Nat) (s:Nm) (val:α → Value) (r:Except Flt (α × Nat)) (w:World) (e:Ending) (w':World):Prop:=match r with
 | .error p=>e = .panicked [{ v:=wrongV p.1 p.2,recovered:=false }] ∧ Turned [q] w w'
 | .ok (x,a)=>e = .returned (val x) ∧ w'.heap[q]? = some (RdO s a) ∧ Turned [q] w w'
def takeD (s:Nm) (a n:Nat):Except Flt (Nm × Nat):=if s.length < a + n then .error (s.length,1300) else .ok (sub s a n,a + n)
set_option maxHeartbeats 2000000 in
theorem take_any (q:Nat) (s:Nm) (a n:Nat) (w:World) (h:w.heap[q]? = some (RdO s a)) (ha:a ≤ s.length) (hs:s.length ≤ 10000000) (hn:n ≤ 10000000) :
  Calls Tryz.prog 82 #[PP q,.int .i64 n] w (RdP q s sv (takeD s a n) w):=by
 have z:=str_size s
 have c0:=blk_cell h 0
 have c1:=blk_cell h 1
 have f1:=blk_free h 1
 have hl:=blk_lt h
 simp only [List.getElem?_toArray,List.getElem?_cons_zero,List.getElem?_cons_succ] at c0 c1
 have H:=Lib.hid h
 have hw1:IntKind.i64.wrap ((s.length:Int) - (a:Int)) = (s.length:Int) - (a:Int):=IntWalk.i64_in _ (by omega)
 clear h
 by_cases hc:s.length < a + n
 ·have HT:Hid (takeD s a n = .error (s.length,1300)):=by unfold Hid takeD;rw [if_pos hc]
  have d1:decide ((s.length:Int) - (a:Int) < (n:Int)) = true:=decide_eq_true (by omega)
  rw [HT.out]
  go_enter Tryz.func82,Tryz.ntmps82
  go_wp2_with fail
  go_still_tail 17,(by kernel_rfl)
  change wpList _ _ _ _ _ w.drew
  go_wp2_with fail
  refine (fail_yes s.length 1300 _).mono ?_;rintro e w' ⟨rfl,rfl⟩
  exact ⟨rfl,rfl,(Turned.refl _ _).drew⟩
 ·have HT:Hid (takeD s a n = .ok (sub s a n,a + n)):=by unfold Hid takeD;rw [if_neg hc]
  have d1:decide ((s.length:Int) - (a:Int) < (n:Int)) = false:=decide_eq_false (by omega)
  rw [HT.out]
  have hw2:IntKind.i64.wrap ((a:Int) + (n:Int)) = (a:Int) + (n:Int):=IntWalk.i64_in _ (by omega)
  have hw3:IntKind.i64.wrap (a:Int) = (a:Int):=IntWalk.i64_in _ (by omega)
  go_enter Tryz.func82,Tryz.ntmps82
  go_wp2_with fail
  go_still_tail 17,(by kernel_rfl)
  change wpList _ _ _ _ _ w.drew
  go_wp2_with fail
  refine (fail_no s.length 1300 _).mono ?_;rintro e w' ⟨rfl,rfl⟩
  go_upto_region 3 with fail
  change Code.wp _ _ _ _ (w.drew.setCell ⟨q,1,none⟩ (.int .i64 ((a:Int) + (n:Int))))
  have hb:(w.drew.setCell ⟨q,1,none⟩ (.int .i64 ((a:Int) + (n:Int)))).heap[q]? = some (RdO s (a + n)):=by
   have:=blk_set (w:=w.drew) H.out 1 (.int .i64 ((a:Int) + (n:Int)))
   rw [this];rfl
  have HT2:Hid (Turned [q] w (w.drew.setCell ⟨q,1,none⟩ (.int .i64 ((a:Int) + (n:Int))))):=(Turned.refl _ _).drew.setCell (by simp) _
  generalize (w.drew.setCell ⟨q,1,none⟩ (.int .i64 ((a:Int) + (n:Int)))) = w2 at *
  have HQ:=Lib.hid hb
  clear c0 c1 f1 hl d1
  have c0:=blk_cell hb 0
  have c1:=blk_cell hb 1
  simp only [List.getElem?_toArray,List.getElem?_cons_zero,List.getElem?_cons_succ] at c0 c1
  clear hb
  have hex:(⟨s.toArray⟩:ByteArray).extract a (a + n) = ⟨(sub s a n).toArray⟩:=by rw [path.cut_str,Nat.add_sub_cancel_left];rfl
  have hi1:(a:Int) ≤ (a:Int) + (n:Int):=by omega
  have hi2:(a:Int) + (n:Int) ≤ (s.length:Int):=by omega
  have hi3:a ≤ a + n:=by omega
  have hi4:a + n ≤ s.length:=by omega
  have hi5:(0:Int) ≤ (a:Int) + (n:Int):=by omega
  have hi6:((a:Int) + (n:Int)).toNat = a + n:=by omega
  go_quiet (fail)
  go_wp2_with fail
  go_ret
  exact ⟨rfl,blk_below HQ.out (below_drewN (Below.refl _ _) _),HT2.out.trans (Turned.of_below (below_drewN (Below.refl _ _) _))⟩
def numV (s:Nm) (a:Nat) (n:Nat):Nat:=if n = 1 then (s.getD a 0).toNat else num2 s a
def numD (s:Nm) (a n:Nat):Except Flt (Nat × Nat):=if s.length < a + n then .error (s.length,1300) else .ok (numV s a n,a + n)
theorem sub_one (s:Nm) (a:Nat) (h:a < s.length):sub s a 1 = [s.getD a 0]:=by
 unfold sub
 rw [List.drop_eq_getElem_cons h,List.getD_eq_getElem?_getD,List.getElem?_eq_getElem h]
 rfl
theorem sub_two (s:Nm) (a:Nat) (h:a + 1 < s.length):sub s a 2 = [s.getD a 0,s.getD (a + 1) 0]:=by
 unfold sub
 rw [List.drop_eq_getElem_cons (by omega),List.drop_eq_getElem_cons h,List.getD_eq_getElem?_getD,List.getD_eq_getElem?_getD,List.getElem?_eq_getElem (by omega),List.getElem?_eq_getElem h]
 rfl
theorem of_sub (s:Nm) (a n:Nat) (hn:n = 1 ∨ n = 2) (h:a + n ≤ s.length):num.ofLeV ⟨(sub s a n).toArray⟩ = numV s a n:=by
 have hz:(⟨(sub s a n).toArray⟩:ByteArray).size = n:=by
  rw [str_size];unfold sub;rw [List.length_take,List.length_drop];omega
 unfold num.ofLeV numV
 rw [if_neg (by rw [hz];omega)]
 rcases hn with rfl | rfl
 ·rw [sub_one s a (by omega)]
  simp [num.ofLeL]
 ·rw [sub_two s a (by omega)]
  simp [num.ofLeL,num2]
theorem numV_lt (s:Nm) (a n:Nat):numV s a n < 65536:=by
 unfold numV num2
 have h1:=(s.getD a 0).toNat_lt
 have h2:=(s.getD (a + 1) 0).toNat_lt
 split <;> omega
set_option maxHeartbeats 1000000 in
theorem number_any (q:Nat) (s:Nm) (a n:Nat) (w:World) (h:w.heap[q]? = some (RdO s a)) (ha:a ≤ s.length) (hs:s.length ≤ 10000000) (hn:n = 1 ∨ n = 2) :
  Calls Tryz.prog 43 #[PP q,.int .i64 n] w (RdP q s (fun v:Nat=>.int .i64 v) (numD s a n) w):=by
 have HT:=Lib.hid (take_any q s a n w h ha hs (by omega))
 by_cases hc:s.length < a + n
 ·have hd:Hid (numD s a n = .error (s.length,1300)):=by unfold Hid numD;rw [if_pos hc]
  have ht:takeD s a n = .error (s.length,1300):=by unfold takeD;rw [if_pos hc]
  rw [ht] at HT
  rw [hd.out]
  clear hc ht hd h
  go_enter Tryz.func43,Tryz.ntmps43
  go_wp2_with fail
  refine HT.out.mono ?_;rintro e w1 ⟨rfl,ht⟩
  exact ⟨rfl,rfl,ht⟩
 ·have hd:Hid (numD s a n = .ok (numV s a n,a + n)):=by unfold Hid numD;rw [if_neg hc]
  have ht:takeD s a n = .ok (sub s a n,a + n):=by unfold takeD;rw [if_neg hc]
  rw [ht] at HT
  rw [hd.out]
  have HOF:=Lib.hid (fun W=>num.OfLe_any ⟨(sub s a n).toArray⟩ W (by rw [str_size];unfold sub maxLen;rw [List.length_take];omega))
  rw [of_sub s a n hn (by omega)] at HOF
  have hl:=numV_lt s a n
  have hw:IntKind.i64.wrap (numV s a n:Int) = (numV s a n:Int):=IntWalk.i64_in _ (by omega)
  generalize numV s a n = v at *
  clear hc ht hd h hn
  go_enter Tryz.func43,Tryz.ntmps43
  go_wp2_with fail
  refine HT.out.mono ?_;rintro e w1 ⟨rfl,hq,ht⟩
  have HQ:=Lib.hid (And.intro hq ht)
  clear hq ht HT
  go_wp2_with fail
  refine (HOF.out _).mono ?_;rintro e w' ⟨rfl,rfl⟩
  go_wp2_with fail
  go_ret
  exact ⟨rfl,HQ.out.1,HQ.out.2⟩
theorem wp_fall {P:Program} {o:Oper} {a:Act} {w w':World} {f:FuncId} {args:Array Value} {K:Act → World → Prop} {Q:Exit → Act → World → Prop} (h:reg.Runs P o a w (.ok (.enter f args) w'))
  (hk:Calls P f args w' fun e w''=>∃ ch,e = .panicked ch ∧ Q (.panic ch) a w''):o.wp P a w K Q:=by
 unfold Oper.wp;rw [h.run]
 refine hk.mono ?_
 rintro e w'' ⟨ch,rfl,hq⟩
 exact hq
def markD (s m:Nm) (a:Nat):Except Flt (Unit × Nat):=if m.isPrefixOf (s.drop a) then .ok ((),a + m.length) else .error (a,1301)
set_option maxHeartbeats 2000000 in
theorem mark_any (q:Nat) (s m:Nm) (a:Nat) (w:World) (h:w.heap[q]? = some (RdO s a)) (ha:a ≤ s.length) (hs:s.length ≤ 10000000) (hm:m.length ≤ 1000) :
  Calls Tryz.prog 42 #[PP q,sv m] w (RdP q s (fun _=>.tuple #[]) (markD s m a) w):=by
 have z:=str_size s
 have zm:=str_size m
 have c0:=blk_cell h 0
 have c1:=blk_cell h 1
 have f1:=blk_free h 1
 have hl:=blk_lt h
 simp only [List.getElem?_toArray,List.getElem?_cons_zero,List.getElem?_cons_succ] at c0 c1
 have H:=Lib.hid h
 have hex:(⟨s.toArray⟩:ByteArray).extract a s.length = ⟨(s.drop a).toArray⟩:=by rw [path.cut_str,List.take_of_length_le (by rw [List.length_drop];omega)]
 have HP:Hid (∀ W:World,Calls Tryz.prog 80 #[.string ⟨(s.drop a).toArray⟩,.string ⟨m.toArray⟩] W fun e w'=>e = .returned (.bool (m.isPrefixOf (s.drop a))) ∧ w' = W):=fun W=>Tryz.strings_HasPrefix ⟨(s.drop a).toArray⟩ ⟨m.toArray⟩ W
 have hi1:(a:Int) ≤ (s.length:Int):=by omega
 clear h
 cases hpr:m.isPrefixOf (s.drop a) with
 | true =>
  have HD:Hid (markD s m a = .ok ((),a + m.length)):=by unfold Hid markD;rw [if_pos hpr]
  rw [hpr] at HP
  rw [HD.out]
  have hw2:IntKind.i64.wrap ((a:Int) + (m.length:Int)) = (a:Int) + (m.length:Int):=IntWalk.i64_in _ (by omega)
  clear hpr HD
  go_enter Tryz.func42,Tryz.ntmps42
  go_wp2_with fail
  go_quiet ((first | (go_at_call 80;with_reducible exact Calls.quiet_of_same (HP.out _)) | (go_at_call 44;with_reducible exact still (fail_no _ _ _))))
  have H2:=Lib.hid (blk_below H.out (below_drewN (Below.refl _ _) nq))
  have HT2:Hid (Turned [q] w (w.drewN nq)):=Turned.of_below (below_drewN (Below.refl _ _) _)
  generalize (w.drewN nq) = w2 at *
  clear c0 c1 f1 hl
  have c0:=blk_cell H2.out 0
  have c1:=blk_cell H2.out 1
  have f1:=blk_free H2.out 1
  have hl:=blk_lt H2.out
  simp only [List.getElem?_toArray,List.getElem?_cons_zero,List.getElem?_cons_succ] at c0 c1
  go_wp2_with fail
  go_end0
  refine ⟨rfl,?_,HT2.out.setCell (by simp) _⟩
  have:=blk_set H2.out 1 (.int .i64 ((a:Int) + (m.length:Int)))
  rw [this];rfl
 | false =>
  have HD:Hid (markD s m a = .error (a,1301)):=by unfold Hid markD;rw [if_neg (by rw [hpr];decide)]
  rw [hpr] at HP
  rw [HD.out]
  clear hpr HD
  go_enter Tryz.func42,Tryz.ntmps42
  go_wp2_with fail
  refine reg.region_each (by kernel_rfl) reg.Ext (fun ri v w'=>match ri with
    | 0=>v = PP q
    | 1=>v = PP q
    | 2=>v = .pointer (some ⟨q,0,none⟩)
    | 3=>v = .string ⟨s.toArray⟩
    | 4=>v = PP q
    | 5=>v = PP q
    | 6=>v = .pointer (some ⟨q,1,none⟩)
    | 7=>v = .int .i64 a
    | 8=>v = .string ⟨(s.drop a).toArray⟩
    | 9=>v = sv m
    | 10=>v = .bool false
    | 11=>v = .bool true
    | 12=>v = PP q
    | 13=>v = PP q
    | 14=>v = .pointer (some ⟨q,1,none⟩)
    | 15=>v = .int .i64 a
    | 16=>False
    | _=>True) reg.Ext.refl reg.Ext.trans ?_ (by kernel_rfl) ?_ ?_
  ·
   intro i v w1 w2 h hx
   rcases i with _|_|_|_|_|_|_|_|_|_|_|_|_|_|_|_|_|i
   ·exact h
   ·exact h
   ·exact h
   ·exact h
   ·exact h
   ·exact h
   ·exact h
   ·exact h
   ·exact h
   ·exact h
   ·exact h
   ·exact h
   ·exact h
   ·exact h
   ·exact h
   ·exact h
   ·exact h
   ·trivial
  ·
   refine ⟨?_,?_,?_,?_,?_,?_,?_,?_,?_,?_,?_,?_,?_,?_,?_,?_,?_,trivial⟩
   ·-- 0: slot 4:=Op.move t0
    intro ra w' hx hs
    have s0:ra.eval (.tmp 0) = PP q:=hs.1
    clear hs
    have c0:=hx.cell (a:=⟨q,0,none⟩) c0
    have c1:=hx.cell (a:=⟨q,1,none⟩) c1
    change Oper.wp _ _ ra w' _ _
    refine reg.wp_value (v:=PP q) (w':=w') ?_ ⟨_,rfl,reg.Ext.refl _,rfl⟩
    intro ρ rc rf rg re
    rw [re] at s0
    simp [execOp,go_sem,rc,rf,rg,s0] <;> first | omega | rfl | decide
   ·-- 1: slot 5:=Op.nilCheck t4
    intro ra w' hx hs
    have s4:ra.eval (.tmp 4) = PP q:=hs.1
    clear hs
    have c0:=hx.cell (a:=⟨q,0,none⟩) c0
    have c1:=hx.cell (a:=⟨q,1,none⟩) c1
    change Oper.wp _ _ ra w' _ _
    refine reg.wp_value (v:=PP q) (w':=w') ?_ ⟨_,rfl,reg.Ext.refl _,rfl⟩
    intro ρ rc rf rg re
    rw [re] at s4
    simp [execOp,go_sem,rc,rf,rg,s4] <;> first | omega | rfl | decide
   ·-- 2: slot 6:=Op.fieldAddr 86 t5 0
    intro ra w' hx hs
    have s5:ra.eval (.tmp 5) = PP q:=hs.1
    clear hs
    have c0:=hx.cell (a:=⟨q,0,none⟩) c0
    have c1:=hx.cell (a:=⟨q,1,none⟩) c1
    change Oper.wp _ _ ra w' _ _
    refine reg.wp_value (v:=.pointer (some ⟨q,0,none⟩)) (w':=w') ?_ ⟨_,rfl,reg.Ext.refl _,rfl⟩
    intro ρ rc rf rg re
    rw [re] at s5
    simp [execOp,go_sem,rc,rf,rg,s5] <;> first | omega | rfl | decide
   ·-- 3: slot 7:=Op.load 9 t6
    intro ra w' hx hs
    have s6:ra.eval (.tmp 6) = .pointer (some ⟨q,0,none⟩):=hs.1
    clear hs
    have c0:=hx.cell (a:=⟨q,0,none⟩) c0
    have c1:=hx.cell (a:=⟨q,1,none⟩) c1
    change Oper.wp _ _ ra w' _ _
    refine reg.wp_value (v:=.string ⟨s.toArray⟩) (w':=w') ?_ ⟨_,rfl,reg.Ext.refl _,rfl⟩
    intro ρ rc rf rg re
    rw [re] at s6
    simp [execOp,go_sem,rc,rf,rg,s6,c0] <;> first | omega | rfl | decide
   ·-- 4: slot 8:=Op.move t0
    intro ra w' hx hs
    have s0:ra.eval (.tmp 0) = PP q:=hs.1
    clear hs
    have c0:=hx.cell (a:=⟨q,0,none⟩) c0
    have c1:=hx.cell (a:=⟨q,1,none⟩) c1
    change Oper.wp _ _ ra w' _ _
    refine reg.wp_value (v:=PP q) (w':=w') ?_ ⟨_,rfl,reg.Ext.refl _,rfl⟩
    intro ρ rc rf rg re
    rw [re] at s0
    simp [execOp,go_sem,rc,rf,rg,s0] <;> first | omega | rfl | decide
   ·-- 5: slot 9:=Op.nilCheck t8
    intro ra w' hx hs
    have s8:ra.eval (.tmp 8) = PP q:=hs.1
    clear hs
    have c0:=hx.cell (a:=⟨q,0,none⟩) c0
    have c1:=hx.cell (a:=⟨q,1,none⟩) c1
    change Oper.wp _ _ ra w' _ _
    refine reg.wp_value (v:=PP q) (w':=w') ?_ ⟨_,rfl,reg.Ext.refl _,rfl⟩
    intro ρ rc rf rg re
    rw [re] at s8
    simp [execOp,go_sem,rc,rf,rg,s8] <;> first | omega | rfl | decide
   ·-- 6: slot 10:=Op.fieldAddr 86 t9 1
    intro ra w' hx hs
    have s9:ra.eval (.tmp 9) = PP q:=hs.1
    clear hs
    have c0:=hx.cell (a:=⟨q,0,none⟩) c0
    have c1:=hx.cell (a:=⟨q,1,none⟩) c1
    change Oper.wp _ _ ra w' _ _
    refine reg.wp_value (v:=.pointer (some ⟨q,1,none⟩)) (w':=w') ?_ ⟨_,rfl,reg.Ext.refl _,rfl⟩
    intro ρ rc rf rg re
    rw [re] at s9
    simp [execOp,go_sem,rc,rf,rg,s9] <;> first | omega | rfl | decide
   ·-- 7: slot 11:=Op.load 3 t10
    intro ra w' hx hs
    have s10:ra.eval (.tmp 10) = .pointer (some ⟨q,1,none⟩):=hs.1
    clear hs
    have c0:=hx.cell (a:=⟨q,0,none⟩) c0
    have c1:=hx.cell (a:=⟨q,1,none⟩) c1
    change Oper.wp _ _ ra w' _ _
    refine reg.wp_value (v:=.int .i64 a) (w':=w') ?_ ⟨_,rfl,reg.Ext.refl _,rfl⟩
    intro ρ rc rf rg re
    rw [re] at s10
    simp [execOp,go_sem,rc,rf,rg,s10,c1] <;> first | omega | rfl | decide
   ·-- 8: slot 12:=Op.slice 9 t7 (some t11) none none
    intro ra w' hx hs
    have s7:ra.eval (.tmp 7) = .string ⟨s.toArray⟩:=hs.1
    have s11:ra.eval (.tmp 11) = .int .i64 a:=hs.2.1
    clear hs
    have c0:=hx.cell (a:=⟨q,0,none⟩) c0
    have c1:=hx.cell (a:=⟨q,1,none⟩) c1
    change Oper.wp _ _ ra w' _ _
    refine reg.wp_value (v:=.string ⟨(s.drop a).toArray⟩) (w':=w') ?_ ⟨_,rfl,reg.Ext.refl _,rfl⟩
    intro ρ rc rf rg re
    rw [re] at s7 s11
    simp [execOp,go_sem,rc,rf,rg,s7,s11,hex,hi1,z] <;> first | omega | rfl | decide
   ·-- 9: slot 13:=Op.move t1
    intro ra w' hx hs
    have s1:ra.eval (.tmp 1) = sv m:=hs.1
    clear hs
    have c0:=hx.cell (a:=⟨q,0,none⟩) c0
    have c1:=hx.cell (a:=⟨q,1,none⟩) c1
    change Oper.wp _ _ ra w' _ _
    refine reg.wp_value (v:=sv m) (w':=w') ?_ ⟨_,rfl,reg.Ext.refl _,rfl⟩
    intro ρ rc rf rg re
    rw [re] at s1
    simp [execOp,go_sem,rc,rf,rg,s1] <;> first | omega | rfl | decide
   ·-- 10: slot 14:=Op.call { value (Operand.func 80),args := #[t12,t13],argTypes := #[9,9] }
    intro ra w' hx hs
    have s12:ra.eval (.tmp 12) = .string ⟨(s.drop a).toArray⟩:=hs.1
    have s13:ra.eval (.tmp 13) = sv m:=hs.2.1
    clear hs
    have c0:=hx.cell (a:=⟨q,0,none⟩) c0
    have c1:=hx.cell (a:=⟨q,1,none⟩) c1
    change Oper.wp _ _ ra w' _ _
    refine reg.wp_call (f:=80) (args := #[.string ⟨(s.drop a).toArray⟩,sv m]) (w':=w') ?_ ?_
    ·intro ρ rc rf rg re
     rw [re] at s12 s13
     simp [execOp,go_sem,rc,rf,rg,s12,s13] <;> first | omega | rfl | decide
    refine (HP.out _).mono ?_
    rintro e w2 ⟨rfl,rfl⟩
    exact ⟨_,rfl,_,rfl,reg.Ext.refl _,rfl⟩
   ·-- 11: slot 15:=Op.unOp UnOp.not 4 t14
    intro ra w' hx hs
    have s14:ra.eval (.tmp 14) = .bool false:=hs.1
    clear hs
    have c0:=hx.cell (a:=⟨q,0,none⟩) c0
    have c1:=hx.cell (a:=⟨q,1,none⟩) c1
    change Oper.wp _ _ ra w' _ _
    refine reg.wp_value (v:=.bool true) (w':=w') ?_ ⟨_,rfl,reg.Ext.refl _,rfl⟩
    intro ρ rc rf rg re
    rw [re] at s14
    simp [execOp,go_sem,rc,rf,rg,s14] <;> first | omega | rfl | decide
   ·-- 12: slot 16:=Op.move t0
    intro ra w' hx hs
    have s0:ra.eval (.tmp 0) = PP q:=hs.1
    clear hs
    have c0:=hx.cell (a:=⟨q,0,none⟩) c0
    have c1:=hx.cell (a:=⟨q,1,none⟩) c1
    change Oper.wp _ _ ra w' _ _
    refine reg.wp_value (v:=PP q) (w':=w') ?_ ⟨_,rfl,reg.Ext.refl _,rfl⟩
    intro ρ rc rf rg re
    rw [re] at s0
    simp [execOp,go_sem,rc,rf,rg,s0] <;> first | omega | rfl | decide
   ·-- 13: slot 17:=Op.nilCheck t16
    intro ra w' hx hs
    have s16:ra.eval (.tmp 16) = PP q:=hs.1
    clear hs
    have c0:=hx.cell (a:=⟨q,0,none⟩) c0
    have c1:=hx.cell (a:=⟨q,1,none⟩) c1
    change Oper.wp _ _ ra w' _ _
    refine reg.wp_value (v:=PP q) (w':=w') ?_ ⟨_,rfl,reg.Ext.refl _,rfl⟩
    intro ρ rc rf rg re
    rw [re] at s16
    simp [execOp,go_sem,rc,rf,rg,s16] <;> first | omega | rfl | decide
   ·-- 14: slot 18:=Op.fieldAddr 86 t17 1
    intro ra w' hx hs
    have s17:ra.eval (.tmp 17) = PP q:=hs.1
    clear hs
    have c0:=hx.cell (a:=⟨q,0,none⟩) c0
    have c1:=hx.cell (a:=⟨q,1,none⟩) c1
    change Oper.wp _ _ ra w' _ _
    refine reg.wp_value (v:=.pointer (some ⟨q,1,none⟩)) (w':=w') ?_ ⟨_,rfl,reg.Ext.refl _,rfl⟩
    intro ρ rc rf rg re
    rw [re] at s17
    simp [execOp,go_sem,rc,rf,rg,s17] <;> first | omega | rfl | decide
   ·-- 15: slot 19:=Op.load 3 t18
    intro ra w' hx hs
    have s18:ra.eval (.tmp 18) = .pointer (some ⟨q,1,none⟩):=hs.1
    clear hs
    have c0:=hx.cell (a:=⟨q,0,none⟩) c0
    have c1:=hx.cell (a:=⟨q,1,none⟩) c1
    change Oper.wp _ _ ra w' _ _
    refine reg.wp_value (v:=.int .i64 a) (w':=w') ?_ ⟨_,rfl,reg.Ext.refl _,rfl⟩
    intro ρ rc rf rg re
    rw [re] at s18
    simp [execOp,go_sem,rc,rf,rg,s18,c1] <;> first | omega | rfl | decide
   ·-- 16: slot 20:=Op.call { value (Operand.func 44),args := #[t15,t19,const (1301:i64)],argTypes := #[4,3,26] }
    intro ra w' hx hs
    have s15:ra.eval (.tmp 15) = .bool true:=hs.1
    have s19:ra.eval (.tmp 19) = .int .i64 a:=hs.2.1
    have hdef:ra.defers = []:=hs.2.2
    clear hs
    have c0:=hx.cell (a:=⟨q,0,none⟩) c0
    have c1:=hx.cell (a:=⟨q,1,none⟩) c1
    change Oper.wp _ _ ra w' _ _
    refine wp_fall (f:=44) (args := #[.bool true,.int .i64 a,.int .i64 1301]) (w':=w') ?_ ?_
    ·intro ρ rc rf rg re
     rw [re] at s15 s19
     simp [execOp,go_sem,rc,rf,rg,s15,s19] <;> first | omega | rfl | decide
    refine (fail_yes a 1301 _).mono ?_
    rintro e w2 ⟨rfl,rfl⟩
    exact ⟨_,rfl,hdef,rfl,Turned.of_below ((Below.refl _ _).drew.trans hx)⟩
  intro rV w2 hx hf
  have ve0:rV 0 = PP q:=hf 0 (by decide)
  have ve1:rV 1 = PP q:=hf 1 (by decide)
  have ve2:rV 2 = .pointer (some ⟨q,0,none⟩):=hf 2 (by decide)
  have ve3:rV 3 = .string ⟨s.toArray⟩:=hf 3 (by decide)
  have ve4:rV 4 = PP q:=hf 4 (by decide)
  have ve5:rV 5 = PP q:=hf 5 (by decide)
  have ve6:rV 6 = .pointer (some ⟨q,1,none⟩):=hf 6 (by decide)
  have ve7:rV 7 = .int .i64 a:=hf 7 (by decide)
  have ve8:rV 8 = .string ⟨(s.drop a).toArray⟩:=hf 8 (by decide)
  have ve9:rV 9 = sv m:=hf 9 (by decide)
  have ve10:rV 10 = .bool false:=hf 10 (by decide)
  have ve11:rV 11 = .bool true:=hf 11 (by decide)
  have ve12:rV 12 = PP q:=hf 12 (by decide)
  have ve13:rV 13 = PP q:=hf 13 (by decide)
  have ve14:rV 14 = .pointer (some ⟨q,1,none⟩):=hf 14 (by decide)
  have ve15:rV 15 = .int .i64 a:=hf 15 (by decide)
  have ve16:=hf 16 (by decide)
  clear hf
  simp only [List.zipIdx_cons,List.zipIdx_nil,List.foldl_cons,List.foldl_nil,Act.put,Nat.reduceAdd,List.setIfInBounds_toArray,List.set_cons_succ,List.set_cons_zero,ve0,ve1,ve2,ve3,ve4,ve5,ve6,ve7,ve8,ve9,ve10,ve11,ve12,ve13,ve14,ve15]
  clear ve0 ve1 ve2 ve3 ve4 ve5 ve6 ve7 ve8 ve9 ve10 ve11 ve12 ve13 ve14 ve15
  generalize rV 16 = v16 at *
  clear rV
  exact ve16.elim
end Go.Proofs.YtifhnpkapgaboaaGreat.arch
