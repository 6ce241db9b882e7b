/-
  Proved: what path.clean gives. Conditions: as each theorem says.
  Proved: what path.Parts gives. Conditions: as each theorem says.
  Proved: what path.Clean gives. Conditions: as each theorem says.
-/
import Derived.Test.YtifhnpkapgaboaaGreatPj4
import Derived.Deep.AppendLies
set_option linter.unusedVariables false
set_option linter.unusedSimpArgs false
namespace Go.Proofs.YtifhnpkapgaboaaGreat.path
open Go.RowKit Go.Shelf
open heap
attribute [local go_sem] Oper.semAt_some
theorem pieces_any (l:List UInt8) (w:World):Calls Tryz.prog 132 #[sv l] w fun e w'=>e = .returned (.func (.func 141) #[] #[.pointer (some ⟨w.heap.size,0,none⟩)]) ∧ w' = w.alloc (.cells #[sv l] 9):=by
 go_enter Tryz.func132,Tryz.ntmps132
 go_wp2
 go_ret
 exact ⟨rfl,rfl⟩
theorem Chg.below {B c:Nat} {w W W':World} (h:Chg B c W W') (hb:Below w.heap.size w W) (hB:w.heap.size ≤ B) (hc:w.heap.size ≤ c):Below w.heap.size w W':=
 ⟨h.os.trans hb.os,h.tape.trans hb.tape,h.output.trans hb.output,Nat.le_trans hb.size h.size,fun i hi=>by
  rw [h.low i (by omega) (by omega) (Nat.lt_of_lt_of_le hi hb.size)];exact hb.block i hi⟩
theorem Keeps.of {B c:Nat} {W W':World} {S:List Nat} (h:Turned S W W') (hS:∀ b ∈ S,b < B ∧ b ≠ c) (hc:c < W.heap.size):Keeps B c W W':=
 ⟨h.size,fun b o hb ho _=>h.kept ho (fun hm=>by have:=(hS b hm).1;omega),h.block c hc (fun hm=>(hS c hm).2 rfl)⟩
structure ClI (w:World) (pre:List (List UInt8)) (W:World):Prop where
 res:W.heap[w.heap.size]? = some (.cells #[.bool false] 4 (0,0))
 cnt:W.heap[w.heap.size + 1]? = some (.cells #[.int .i64 pre.length] 3 (0,0))
 bel:Below w.heap.size w W
 good:∀ p ∈ pre,nameE p = 0
def ClX (w:World) (k:Code) (pre:List (List UInt8)) (W:World):Prop:=
 k = .ret ∧ W.heap[w.heap.size]? = some (.cells #[.bool false] 4 (0,0)) ∧ Below w.heap.size w W ∧ ∃ p ∈ pre,nameE p ≠ 0
set_option maxRecDepth 100000 in
set_option maxHeartbeats 1000000 in
theorem clean_any (l:List UInt8) (w:World) (hl:l.length ≤ 9223372036854775806) :
  Calls Tryz.prog 135 #[sv l] w fun e w'=>e = .returned (.bool (cleanB l)) ∧ Below w.heap.size w w':=by
 have hba1:Below w.heap.size w (w.alloc (.cells #[.bool false] 4)):=(Below.refl _ _).alloc (Nat.le_refl _) _
 have z:=str_size l
 by_cases h0:l = []
 ·subst h0
  refine (callsIn_wide (n:=9)).1 (callsIn_of_wp_marks Tryz.func135 rfl trivial ?_ rfl)
  simp only [Tryz.ntmps135,List.size_toArray,List.length_cons,List.length_nil,Nat.reduceAdd,Nat.reduceSub,Array.replicate_succ,Array.replicate_zero,List.push_toArray,List.append_toArray,List.nil_append,List.cons_append]
  refine wpIn_wide.2 ?_
  go_wp2_with fail
  exact ⟨.bool true,by simp [results,Tryz.results135,go_sem],rfl,(Below.refl _ _).alloc (Nat.le_refl _) _⟩
 ·have b0:l.isEmpty = false:=by cases l <;> simp_all
  have b0':(l == []) = false:=by rw [beq_eq_false_iff_ne];exact h0
  have HP:=Lib.hid (fun W:World=>pieces_any l W)
  refine (callsIn_wide (n:=9)).1 (callsIn_of_wp_marks Tryz.func135 rfl trivial ?_ rfl)
  simp only [Tryz.ntmps135,List.size_toArray,List.length_cons,List.length_nil,Nat.reduceAdd,Nat.reduceSub,Array.replicate_succ,Array.replicate_zero,List.push_toArray,List.append_toArray,List.nil_append,List.cons_append]
  gi_wp2_with fail
  refine ⟨trivial,(callsIn_wide.2 (HP.out _)).mono ?_⟩
  rintro e w1 ⟨rfl,rfl⟩
  gi_wp2_with fail
  have hW3:VarIs (w.heap.size + 2) l (((w.alloc (.cells #[.bool false] 4)).alloc (.cells #[.int .i64 0] 3)).alloc (.cells #[sv l] 9)):=by
   have:=blk_new ((w.alloc (.cells #[.bool false] 4)).alloc (.cells #[.int .i64 0] 3)) (.cells #[sv l] 9)
   rw [World.size_alloc,World.size_alloc] at this
   exact this
  have hI3:ClI w [] (((w.alloc (.cells #[.bool false] 4)).alloc (.cells #[.int .i64 0] 3)).alloc (.cells #[sv l] 9)):=by
   refine ⟨blk_old (blk_old (blk_new w _) _) _,?_,(((Below.refl _ _).alloc (Nat.le_refl _) _).alloc (by simp) _).alloc (by simp;omega) _,fun p hp=>by cases hp⟩
   have:=blk_new (w.alloc (.cells #[.bool false] 4)) (.cells #[.int .i64 0] 3)
   rw [World.size_alloc] at this
   exact blk_old this _
  have hs3:(((w.alloc (.cells #[.bool false] 4)).alloc (.cells #[.int .i64 0] 3)).alloc (.cells #[sv l] 9)).heap.size = w.heap.size + 3:=by simp
  generalize ((w.alloc (.cells #[.bool false] 4)).alloc (.cells #[.int .i64 0] 3)).alloc (.cells #[sv l] 9) = W3 at *
  have HS3:=Lib.hid hs3
  have HBD:=Lib.hid (pieces_bd l)
  have HCB:Hid (cleanB l = (decide (∀ p ∈ piecesL l,nameE p = 0) && decide ((piecesL l).length ≤ 8) && decide (l.length ≤ 140))):=by rw [Hid,cleanB,decide_eq_false h0,Bool.false_or]
  clear hs3
  refine rangePieces (w.heap.size + 2) l (by omega) rfl hW3 (ClI w) (ClX w) ?hI ?hIx hI3 (fun x => { tmps := #[sv l,undef,.pointer (some ⟨w.heap.size,0,none⟩),.pointer (some ⟨w.heap.size + 1,0,none⟩),sv x,sv l,.bool false,sv l,.func (.func 141) #[] #[.pointer (some ⟨w.heap.size + 2,0,none⟩)],sv x,undef,undef,undef,undef,undef,undef,undef,undef,undef,undef,undef,undef],defers := [] }) ?assign ?body ?done ?stop
  case hI =>
   intro pre W W' hc h
   rw [HS3.out] at hc
   have hz:=blk_lt h.cnt
   exact ⟨by rw [hc.low _ (by omega) (by omega) (by omega)];exact h.res,by rw [hc.low _ (by omega) (by omega) (by omega)];exact h.cnt,hc.below h.bel (by omega) (by omega),h.good⟩
  case hIx =>
   rintro k pre W W' hc ⟨hk,hr,hb,hx⟩
   rw [HS3.out] at hc
   have hz:=blk_lt hr
   exact ⟨hk,by rw [hc.low _ (by omega) (by omega) (by omega)];exact hr,hc.below hb (by omega) (by omega),hx⟩
  case assign =>
   intro l' x W K hK
   gi_wp2
   exact hK
  case body =>
   intro l' pre x W hsz hi hpre
   rw [HS3.out] at hsz
   rw [HS3.out]
   have hc0:W.cell? ⟨w.heap.size + 1,0,none⟩ = some (.int .i64 pre.length):=by rw [blk_cell hi.cnt];rfl
   have hf0:W.frozen? ⟨w.heap.size + 1,0,none⟩ = false:=blk_free hi.cnt 0
   have hpl:pre.length < (piecesL l).length:=by have:=hpre.length_le;simp at this;omega
   have hbd:=HBD.out.1
   have hpb:pre.length + 1 ≤ 9223372036854775807:=by omega
   have hxl:x.length ≤ l.length:=(HBD.out.2 x (hpre.subset (by simp))).1
   have HN:=Lib.hid (fun W:World=>Name_any x W (by omega))
   have hcnt1:=blk_set hi.cnt 0 (.int .i64 (pre.length + 1))
   have hres1:(W.setCell ⟨w.heap.size + 1,0,none⟩ (.int .i64 (pre.length + 1))).heap[w.heap.size]? = some (.cells #[.bool false] 4 (0,0)):=by rw [blk_other (by omega)];exact hi.res
   have HT1:Hid (Turned [w.heap.size + 1,w.heap.size] W (W.setCell ⟨w.heap.size + 1,0,none⟩ (.int .i64 (pre.length + 1)))):=(Turned.refl _ _).setCell (by simp) _
   have HC1:=Lib.hid hcnt1
   have HR1:=Lib.hid hres1
   have HI:=Lib.hid hi
   have HPR:=Lib.hid hpre
   clear hi hpre hbd hcnt1 hres1
   gi_wp2_with fail
   refine ⟨trivial,(CallsIn.inRound l' (callsIn_wide.2 (HN.out _))).mono ?_⟩
   rintro e w4 ⟨rfl,hb4⟩
   have HC4:=Lib.hid (blk_below HC1.out hb4)
   have hres4:=blk_below HR1.out hb4
   have r0:w4.cell? ⟨w.heap.size,0,none⟩ = some (.bool false):=by rw [blk_cell hres4];rfl
   have g0:w4.frozen? ⟨w.heap.size,0,none⟩ = false:=blk_free hres4 0
   have HT4:Hid (Turned [w.heap.size + 1,w.heap.size] W w4):=HT1.out.trans (Turned.of_below hb4)
   have HR4:=Lib.hid hres4
   clear hb4 hres4
   by_cases hn:nameE x = 0
   ·rw [hn]
    have HNN:=Lib.hid hn
    clear hn
    gi_wp2_with fail
    refine ⟨Keeps.of HT4.out (fun b hb=>by simp at hb;omega) (by omega),HR4.out,?_,HI.out.bel.trans (HT4.out.below HI.out.bel.size (fun b hb=>by simp at hb;omega)),fun p hp => ?_⟩
    ·rw [HC4.out];simp
    ·rcases List.mem_append.1 hp with hp | hp
     ·exact HI.out.good p hp
     ·rw [List.mem_singleton] at hp;rw [hp];exact HNN.out
   ·have hb:(nameE x != 0) = true:=by rw [bne_iff_ne];exact hn
    have HNN:=Lib.hid hn
    clear hn
    gi_wp2_with fail
    have hT5:Turned [w.heap.size + 1,w.heap.size] W (w4.setCell ⟨w.heap.size,0,none⟩ (.bool false)):=HT4.out.setCell (by simp) _
    refine ⟨Keeps.of hT5 (fun b hb=>by simp at hb;omega) (by omega),rfl,?_,HI.out.bel.trans (hT5.below HI.out.bel.size (fun b hb=>by simp at hb;omega)),x,by simp,HNN.out⟩
    have:=blk_set HR4.out 0 (.bool false)
    exact this
  case done =>
   intro D W hD hi hK
   rw [HS3.out] at hD
   have hc0:W.cell? ⟨w.heap.size + 1,0,none⟩ = some (.int .i64 (piecesL l).length):=by rw [blk_cell hi.cnt];rfl
   have r0:W.cell? ⟨w.heap.size,0,none⟩ = some (.bool false):=by rw [blk_cell hi.res];rfl
   have g0:W.frozen? ⟨w.heap.size,0,none⟩ = false:=blk_free hi.res 0
   have HR:Hid (cleanB l = (decide ((piecesL l).length ≤ 8) && decide (l.length ≤ 140))):=by rw [Hid,HCB.out,decide_eq_true hi.good,Bool.true_and]
   have HE:Hid (∀ v,((W.setCell ⟨w.heap.size,0,none⟩ v).putObj D (.deferred none)).cell? ⟨w.heap.size,0,none⟩ = some v):=fun v=>by
    rw [World.cell?_of_block (w:=W.setCell ⟨w.heap.size,0,none⟩ v) (World.putObj_heap_other (by show w.heap.size ≠ D;omega)),blk_cell (blk_set hi.res 0 v)]
    simp
   have HKK:Hid (∀ v,(W.setCell ⟨w.heap.size,0,none⟩ v).heap[D]? = some (.deferred (some []))):=fun v=>by rw [blk_other (by omega)];exact hK
   have HBB:Hid (∀ v,Below w.heap.size w ((W.setCell ⟨w.heap.size,0,none⟩ v).putObj D (.deferred none))):=fun v =>
    (hi.bel.setCell (by simp) v).trans ⟨rfl,rfl,rfl,by simp,fun b hb=>World.putObj_heap_other (by omega)⟩
   clear hi hK
   generalize (piecesL l).length = np at *
   by_cases h1:np ≤ 8
   ·have d1:decide ((np:Int) ≤ 8) = true:=by simp;omega
    by_cases h2:l.length ≤ 140
    ·have HV:Hid (cleanB l = true):=by rw [Hid,HR.out];simp [h1,h2]
     gi_wp2_with fail
     refine ⟨by simp,.inl ⟨_,_,rfl,run_takeDeferred (HKK.out _),?_⟩⟩
     exact ⟨.bool true,by simp [results,Tryz.results135,go_sem,HE.out] <;> omega,by rw [HV.out],HBB.out _⟩
    ·have HV:Hid (cleanB l = false):=by rw [Hid,HR.out];simp [h2]
     gi_wp2_with fail
     refine ⟨by simp,.inl ⟨_,_,rfl,run_takeDeferred (HKK.out _),?_⟩⟩
     exact ⟨.bool false,by simp [results,Tryz.results135,go_sem,HE.out] <;> omega,by rw [HV.out],HBB.out _⟩
   ·have d1:decide ((np:Int) ≤ 8) = false:=by simp;omega
    have HV:Hid (cleanB l = false):=by rw [Hid,HR.out];simp [h1]
    gi_wp2_with fail
    refine ⟨by simp,.inl ⟨_,_,rfl,run_takeDeferred (HKK.out _),?_⟩⟩
    exact ⟨.bool false,by simp [results,Tryz.results135,go_sem,HE.out] <;> omega,by rw [HV.out],HBB.out _⟩
  case stop =>
   rintro D k pre W hD hpre ⟨rfl,hr,hb,p,hp,hx⟩ hK
   rw [HS3.out] at hD
   have HV:Hid (cleanB l = false):=by
    rw [Hid,HCB.out,decide_eq_false (fun h=>hx (h p (hpre.subset hp)))];rfl
   have HE:Hid ((W.putObj D (.deferred none)).cell? ⟨w.heap.size,0,none⟩ = some (.bool false)):=by
    rw [Hid,World.cell?_of_block (w:=W) (World.putObj_heap_other (by show w.heap.size ≠ D;omega)),blk_cell hr];rfl
   have HBB:Hid (Below w.heap.size w (W.putObj D (.deferred none))):=hb.trans ⟨rfl,rfl,rfl,by simp,fun b hb=>World.putObj_heap_other (by omega)⟩
   gi_wp2_with fail
   refine ⟨by simp,.inl ⟨_,_,rfl,run_takeDeferred hK,?_⟩⟩
   exact ⟨.bool false,by simp [results,Tryz.results135,go_sem,HE.out],by rw [HV.out],HBB.out⟩
theorem wpListIn_append {F:Fence} {n:Nat} {P:Program} {w w':World} {ops:Array Oper} {rest:List Oper} {o:Oper} {a:Act} {Q:Exit → Act → World → Prop} {v' vs vx:Value} {s x:Operand} {t ty:TypeId} (hgd:o.guard = none)
  (ho:o.op = .call { callee:=.builtin .append,args := #[s,x],argTypes := #[t,t] }) (hty:o.type = ty) (hs:a.eval s = vs) (hx:a.eval x = vx) (hr:(Builtin.append_ #[t,t] ty #[vs,vx]).run P w = .ok v' w')
  (h:wpListIn F n P ops Q rest (a.put o.dst v') w'):wpListIn F n P ops Q (o :: rest) a w:=by
 refine wpListIn_plain hgd fun K hK => ?_
 unfold Oper.wpIn
 subst hty
 refine ⟨?_,?_⟩
 ·simp [Oper.about,ho,resolve,Target.leads,Sem.run_pure]
 ·rw [Oper.semAt_plain F _ _ (by rw [ho];intro c hc;cases hc)]
  simp [execOp,ho,resolve,invoke,builtin,hs,hx,hr,Result.andThen]
  exact hK _ _ h
def SRow (w:World) (base:Nat) (v:Value) (xs:List (List UInt8)):Prop:=w.ownsRow base 9 1 v xs.length (xs.map sv)
theorem infoS:(Tryz.prog.info? 9).map (fun i=>(i.zero,i.size,i.bytes)) = some (some (.string ⟨#[]⟩),1,16):=by kernel_rfl
theorem add0 (g j:Nat):(⟨g,0,none⟩:Addr).add j = ⟨g,j,none⟩:=by unfold Addr.add;split <;> simp_all
theorem append_s (w:World) (base:Nat) (v:Value) (n:Nat) (xs:List Value) (hown:w.ownsRow base 9 1 v n xs) (ad:Addr) (m c:Nat) (news:List Value) (hl:news.length = m * 1)
  (hnews:∀ j u,news[j]? = some u → w.cell? (ad.add j) = some u) (h1:∀ u ∈ news,u.oneCell' = true) (hm:0 < m) (hbytes:(n + m) * 16 ≤ 140737488355328) (hbase:base ≤ w.heap.size) :
  ∃ g cap w',(Builtin.append_ #[59,59] 59 #[v,.slice (some ad) m c]).run Tryz.prog w = .ok (.slice (some ⟨g,0,none⟩) (n + m) cap) w' ∧ w'.ownsRow base 9 1 (.slice (some ⟨g,0,none⟩) (n + m) cap) (n + m) (xs ++ news) ∧ w.grownBy w' v.ownBlock ∧ (v.ownBlock = some g ∨ g = w.heap.size):=by
 obtain ⟨i0,hi,hz0,hz1,hz2⟩:=info_parts infoS
 obtain ⟨g,cap,w',h1,h2,h3,h4,_⟩:=run_append_lies (P:=Tryz.prog) (w:=w) 59 59 base 9 i0 _ 1 16 Tryz.underlying59 hi hz0 hz1 hz2 rfl (by decide) v n xs hown ad m c news hl hnews h1 hm (by unfold maxLen;omega) hbytes hbase _ rfl
 exact ⟨g,cap,w',h1,h2,h3,h4⟩
theorem own_kept {w w':World} {base n:Nat} {v:Value} {xs:List Value} (h:w.ownsRow base 9 1 v n xs) (hk:∀ g o,v.ownBlock = some g → w.heap[g]? = some o → o.isCells = true → w'.heap[g]? = some o):w'.ownsRow base 9 1 v n xs:=by
 obtain ⟨hl,h1 | ⟨g,c,cur,rfl,h2,h3,h4⟩⟩:=h
 ·exact ⟨hl,.inl h1⟩
 ·exact ⟨hl,.inr ⟨g,c,cur,rfl,h2,hk g _ rfl h3 rfl,h4⟩⟩
theorem own_base {w:World} {b b' n:Nat} {v:Value} {xs:List Value} (h:w.ownsRow b 9 1 v n xs) (hb:b' ≤ b):w.ownsRow b' 9 1 v n xs:=by
 obtain ⟨hl,h1 | ⟨g,c,cur,rfl,h2,h3⟩⟩:=h
 ·exact ⟨hl,.inl h1⟩
 ·exact ⟨hl,.inr ⟨g,c,cur,rfl,Nat.le_trans hb h2,h3⟩⟩
theorem own_cells {w:World} {base n:Nat} {v:Value} {xs:List Value} (h:w.ownsRow base 9 1 v n xs) {g:Nat} (hg:v.ownBlock = some g):∃ o,w.heap[g]? = some o ∧ o.isCells = true:=by
 obtain ⟨hl,⟨rfl,_⟩ | ⟨g',c,cur,rfl,h2,h3,h4⟩⟩:=h
 ·cases hg
 ·cases hg;exact ⟨_,h3,rfl⟩
theorem own_slice {w:World} {base n:Nat} {v:Value} {xs:List Value} (h:w.ownsRow base 9 1 v n xs):∃ a c,v = .slice a n c:=by
 obtain ⟨_,⟨h,h0⟩ | ⟨_,_,_,h,_⟩⟩:=h
 ·exact ⟨none,0,by rw [h,h0]⟩
 ·exact ⟨_,_,h⟩
theorem SRow.below {w w':World} {base:Nat} {v:Value} {xs:List (List UInt8)} (h:SRow w base v xs) (hb:Below w.heap.size w w'):SRow w' base v xs:=own_kept h (fun g o hg ho _=>blk_below ho hb)
theorem SRow.turned {w w':World} {base:Nat} {v:Value} {xs:List (List UInt8)} {S:List Nat} (h:SRow w base v xs) (ht:Turned S w w') (hS:∀ g,v.ownBlock = some g → g ∉ S):SRow w' base v xs:=own_kept h (fun g o hg ho _=>ht.kept ho (hS g hg))
theorem push_s (w:World) (base B:Nat) (v:Value) (xs:List (List UInt8)) (x:List UInt8) (hB:B < base) (h:SRow w base v xs) (hbox:w.heap[B]? = some (.cells #[v] 59 (0,0))) (hbytes:(xs.length + 1) * 16 ≤ 140737488355328) (hbase:base ≤ w.heap.size) :
  ∃ a n c w',(Builtin.append_ #[59,59] 59 #[v,.slice (some ⟨w.heap.size,0,none⟩) 1 1]).run Tryz.prog (w.alloc (.cells #[sv x] 9)) = .ok (.slice a n c) w' ∧
   w'.heap[B]? = some (.cells #[v] 59 (0,0)) ∧ SRow (w'.setCell ⟨B,0,none⟩ (.slice a n c)) base (.slice a n c) (xs ++ [x]) ∧
   (w'.setCell ⟨B,0,none⟩ (.slice a n c)).heap[B]? = some (.cells #[.slice a n c] 59 (0,0)) ∧ w.heap.size ≤ (w'.setCell ⟨B,0,none⟩ (.slice a n c)).heap.size ∧
   (∀ b,b < w.heap.size → b ≠ B → v.ownBlock ≠ some b → (w'.setCell ⟨B,0,none⟩ (.slice a n c)).heap[b]? = w.heap[b]?) ∧ w'.os = w.os ∧ w'.tape = w.tape ∧ w'.output = w.output ∧ (∀ g,(Value.slice a n c).ownBlock = some g → v.ownBlock = some g ∨ w.heap.size ≤ g):=by
 have hBl:=blk_lt hbox
 obtain ⟨g0,c,w',hrun,hown,hgr,hlies⟩:=append_s (w.alloc (.cells #[sv x] 9)) base v xs.length _ (World.ownsRow.alloc h _) ⟨w.heap.size,0,none⟩ 1 1 [sv x] rfl (fun j u hu=>by rw [add0,blk_cell (blk_new w _)];simpa using hu) (by simp [Value.oneCell']) (by decide) hbytes (by simp;omega)
 have hlt:=World.ownsRow.lt h
 have hne:v.ownBlock ≠ some B:=fun e=>by have:=(hlt B e).1;omega
 have hb1:w'.heap[B]? = some (.cells #[v] 59 (0,0)):=by
  rw [hgr.block B (by simp;omega) (fun e=>hne e.symm)];exact blk_old hbox _
 refine ⟨some ⟨g0,0,none⟩,_,c,w',hrun,hb1,?_,blk_set hb1 0 _,?_,fun b hb hn hv => ?_,hgr.os,hgr.tape,hgr.output,fun g hg => ?_⟩
 ·have:(w'.setCell ⟨B,0,none⟩ (.slice (some ⟨g0,0,none⟩) (xs.length + 1) c)).ownsRow base 9 1 (.slice (some ⟨g0,0,none⟩) (xs.length + 1) c) (xs.length + 1) (xs.map sv ++ [sv x]):=own_kept hown (fun g o hg ho _=>by
   have:=(World.ownsRow.lt hown g hg).1
   rw [blk_other (by omega)];exact ho)
  unfold SRow
  rw [List.length_append,List.map_append]
  exact this
 ·have:=hgr.size;simp [World.setCell] at this ⊢;omega
 ·rw [blk_other hn,hgr.block b (by simp;omega) (fun e=>hv e.symm),Below.heap_alloc _ _ _ hb]
 ·cases hg
  rcases hlies with h | h
  ·exact .inl h
  ·right;rw [h];simp
structure PaI (w:World) (pre:List (List UInt8)) (W:World):Prop where
 row:∃ v,W.heap[w.heap.size]? = some (.cells #[v] 59 (0,0)) ∧ SRow W (w.heap.size + 2) v pre
 bel:Below w.heap.size w W
 big:w.heap.size + 2 ≤ W.heap.size
set_option maxRecDepth 100000 in
set_option maxHeartbeats 1000000 in
theorem Parts_any (l:List UInt8) (w:World) (hl:l.length ≤ 8796093022206) :
  Calls Tryz.prog 118 #[sv l] w fun e w'=>∃ v,e = .returned v ∧ SRow w' w.heap.size v (partsL l) ∧ Below w.heap.size w w':=by
 have z:=str_size l
 by_cases h0:l = []
 ·subst h0
  refine (callsIn_wide (n:=9)).1 (callsIn_of_wp_marks Tryz.func118 rfl trivial ?_ rfl)
  simp only [Tryz.ntmps118,List.size_toArray,List.length_cons,List.length_nil,Nat.reduceAdd,Nat.reduceSub,Array.replicate_succ,Array.replicate_zero,List.push_toArray,List.append_toArray,List.nil_append,List.cons_append]
  gi_wp2_with fail
  exact ⟨.slice none 0 0,by simp [results,Tryz.results118,go_sem],_,rfl,World.ownsRow_nil _ _ _ _,(Below.refl _ _).alloc (Nat.le_refl _) _⟩
 ·have b0:l.isEmpty = false:=by cases l <;> simp_all
  have b0':(l == []) = false:=by rw [beq_eq_false_iff_ne];exact h0
  have HP:=Lib.hid (fun W:World=>pieces_any l W)
  refine (callsIn_wide (n:=9)).1 (callsIn_of_wp_marks Tryz.func118 rfl trivial ?_ rfl)
  simp only [Tryz.ntmps118,List.size_toArray,List.length_cons,List.length_nil,Nat.reduceAdd,Nat.reduceSub,Array.replicate_succ,Array.replicate_zero,List.push_toArray,List.append_toArray,List.nil_append,List.cons_append]
  gi_wp2_with fail
  refine ⟨trivial,(callsIn_wide.2 (HP.out _)).mono ?_⟩
  rintro e w1 ⟨rfl,rfl⟩
  gi_wp2_with fail
  have hW3:VarIs (w.heap.size + 1) l ((w.alloc (.cells #[.slice none 0 0] 59)).alloc (.cells #[sv l] 9)):=by
   have:=blk_new (w.alloc (.cells #[.slice none 0 0] 59)) (.cells #[sv l] 9)
   rw [World.size_alloc] at this
   exact this
  have hI3:PaI w [] ((w.alloc (.cells #[.slice none 0 0] 59)).alloc (.cells #[sv l] 9)):=
   ⟨⟨_,blk_old (blk_new w _) _,World.ownsRow_nil _ _ _ _⟩,((Below.refl _ _).alloc (Nat.le_refl _) _).alloc (by simp) _,by simp⟩
  have hs3:((w.alloc (.cells #[.slice none 0 0] 59)).alloc (.cells #[sv l] 9)).heap.size = w.heap.size + 2:=by simp
  generalize (w.alloc (.cells #[.slice none 0 0] 59)).alloc (.cells #[sv l] 9) = W3 at *
  have HS3:=Lib.hid hs3
  have HBD:=Lib.hid (pieces_bd l)
  have HPL:Hid (partsL l = piecesL l):=by rw [Hid,partsL,if_neg h0]
  clear hs3
  refine rangePieces (w.heap.size + 1) l (by omega) rfl hW3 (PaI w) (fun _ _ _=>False) ?hI (fun _ _ _ _ _ h=>h) hI3 (fun x => { tmps := #[sv l,undef,.slice none 0 0,.pointer (some ⟨w.heap.size,0,none⟩),sv x,sv l,.bool false,undef,sv l,.func (.func 141) #[] #[.pointer (some ⟨w.heap.size + 1,0,none⟩)],sv x,undef,undef,undef,undef,undef],defers := [] }) ?assign ?body ?done ?stop
  case hI =>
   rintro pre W W' hc ⟨⟨v,hv,hrow⟩,hb,hbig⟩
   rw [HS3.out] at hc
   have hz:=blk_lt hv
   exact ⟨⟨v,by rw [hc.low _ (by omega) (by omega) (by omega)];exact hv,own_kept hrow (fun g o hg ho hcl=>hc.cells g o (by have:=(World.ownsRow.lt hrow g hg).1;omega) ho hcl)⟩,hc.below hb (by omega) (by omega),Nat.le_trans hbig hc.size⟩
  case assign =>
   intro l' x W K hK
   gi_wp2
   exact hK
  case body =>
   rintro l' pre x W hsz ⟨⟨v,hv,hrow⟩,hb,hbig⟩ hpre
   rw [HS3.out]
   have hc0:W.cell? ⟨w.heap.size,0,none⟩ = some v:=by rw [blk_cell hv];rfl
   have hpl:pre.length < (piecesL l).length:=by have:=hpre.length_le;simp at this;omega
   have hbd:=HBD.out.1
   obtain ⟨a,n,c,w4,hrun,hb4,hrow5,hv5,hz5,hk5,ho5,ht5,hu5,-⟩:=push_s W (w.heap.size + 2) w.heap.size v pre x (by omega) hrow hv (by omega) hbig
   have k0:w4.cell? ⟨w.heap.size,0,none⟩ = some v:=by rw [blk_cell hb4];rfl
   have f0:w4.frozen? ⟨w.heap.size,0,none⟩ = false:=blk_free hb4 0
   have HOC:=Lib.hid (fun (g:Nat) (hg:v.ownBlock = some g)=>own_cells hrow hg)
   have HLT:=Lib.hid (World.ownsRow.lt hrow)
   have HF:Hid (Post (w.heap.size + 2) (w.heap.size + 1) (PaI w) (fun _ _ _=>False) (pre ++ [x]) W .normal ⟨#[],[]⟩ (w4.setCell ⟨w.heap.size,0,none⟩ (.slice a n c))):=by
    refine ⟨⟨hz5,fun b o hbb ho hno => ?_,?_⟩,⟨_,hv5,hrow5⟩,?_,by omega⟩
    ·rw [hk5 b (blk_lt ho) (by omega) (fun e => ?_)]
     ·exact ho
     ·obtain ⟨o',ho',hc'⟩:=HOC.out b e
      rw [ho] at ho';cases ho';rw [hno] at hc';cases hc'
    ·exact hk5 _ (by omega) (by omega) (fun e=>by have:=(HLT.out _ e).1;omega)
    ·refine ⟨ho5.trans hb.os,ht5.trans hb.tape,hu5.trans hb.output,Nat.le_trans hb.size hz5,fun i hi => ?_⟩
     rw [hk5 i (Nat.lt_of_lt_of_le hi hb.size) (by omega) (fun e=>by have:=(HLT.out _ e).1;omega)]
     exact hb.block i hi
   have HR:=Lib.hid hrun
   clear hv hrow hb hbig hpre hpl hbd hrun hb4 hrow5 hv5 hz5 hk5 ho5 ht5 hu5
   gi_wp2_with (gi_at_builtin;refine wpListIn_append rfl rfl rfl rfl rfl HR.out ?_)
   exact HF.out
  case done =>
   rintro D W hD ⟨⟨v,hv,hrow⟩,hb,hbig⟩ hK
   rw [HS3.out] at hD
   have hc0:W.cell? ⟨w.heap.size,0,none⟩ = some v:=by rw [blk_cell hv];rfl
   have HRW:Hid (SRow (W.putObj D (.deferred none)) w.heap.size v (partsL l)):=by
    rw [Hid,HPL.out]
    refine own_base (own_kept hrow (fun g o hg ho hcl => ?_)) (by omega)
    rw [World.putObj_heap_other (fun e => ?_)]
    ·exact ho
    ·rw [e,hK] at ho;cases ho;cases hcl
   have HBB:Hid (Below w.heap.size w (W.putObj D (.deferred none))):=hb.trans ⟨rfl,rfl,rfl,by simp,fun b hb=>World.putObj_heap_other (by omega)⟩
   clear hv hrow hb
   gi_wp2_with fail
   refine ⟨by simp,.inl ⟨_,_,rfl,run_takeDeferred hK,?_⟩⟩
   exact ⟨v,by simp [results,Tryz.results118,go_sem],v,rfl,HRW.out,HBB.out⟩
  case stop=>intro D k pre W _ _ h _;exact h.elim
theorem SRow.drop {w:World} {base n cp:Nat} {a:Option Addr} {ws:List (List UInt8)} (h:SRow w base (.slice a n cp) ws):n = ws.length ∧ SRow w base (.slice a (n - 1) cp) ws.dropLast:=by
 obtain ⟨hl,⟨h1,h2⟩ | ⟨g,c,cur,hv,h2,h3,h4,h5,h6,h7⟩⟩:=h
 ·simp only [Value.slice.injEq] at h1
  obtain ⟨rfl,rfl,rfl⟩:=h1
  have hw:ws = []:=List.length_eq_zero_iff.1 h2
  subst hw
  exact ⟨rfl,World.ownsRow_nil _ _ _ _⟩
 ·simp only [Value.slice.injEq] at hv
  obtain ⟨rfl,rfl,rfl⟩:=hv
  refine ⟨rfl,by simp,.inr ⟨g,cp,cur,by simp,h2,h3,by simp;omega,h5,h6,?_⟩⟩
  have e:(ws.dropLast.map sv) = (ws.map sv).take (ws.length - 1):=by rw [List.map_dropLast,List.dropLast_eq_take,List.length_map]
  rw [e,← h7,List.take_take]
  congr 1
  simp
theorem wayW_len (st ps ws:List (List UInt8)) (h:wayW st ps = some ws):ws.length ≤ st.length + ps.length:=by
 induction ps generalizing st with
 | nil=>simp [wayW] at h;rw [h];simp
 | cons p ps ih =>
  simp only [wayW] at h
  unfold stepW at h
  split at h
  ·cases h
  ·rename_i v hv
   have:=ih v h
   have hvl:v.length ≤ st.length + 1:=by
    split at hv
    ·cases hv;omega
    ·split at hv
     ·cases hv;simp;omega
     ·split at hv
      ·cases hv
      ·cases hv;simp
   simp
   omega
structure CnI (w:World) (Bw c:Nat) (st pre:List (List UInt8)) (W:World):Prop where
 r1:W.heap[w.heap.size]? = some (.cells #[.string ⟨#[]⟩] 9 (0,0))
 r2:W.heap[w.heap.size + 1]? = some (.cells #[.int .i64 0] 26 (0,0))
 way:∃ a n cp ws,W.heap[Bw]? = some (.cells #[.slice a n cp] 59 (0,0)) ∧ SRow W (Bw + 1) (.slice a n cp) ws ∧ wayW st pre = some ws ∧ ∀ g,(Value.slice a n cp).ownBlock = some g → g ≠ c
 bel:Below w.heap.size w W
 big:c < W.heap.size
def CnX (w:World) (st:List (List UInt8)) (k:Code) (pre:List (List UInt8)) (W:World):Prop:=
 k = .ret ∧ W.heap[w.heap.size]? = some (.cells #[.string ⟨#[]⟩] 9 (0,0)) ∧ W.heap[w.heap.size + 1]? = some (.cells #[.int .i64 401] 26 (0,0)) ∧ Below w.heap.size w W ∧ wayW st pre = none
theorem wayW_none {st ps:List (List UInt8)} (qs:List (List UInt8)) (h:wayW st ps = none):wayW st (ps ++ qs) = none:=by
 induction ps generalizing st with
 | nil=>simp [wayW] at h
 | cons p ps ih =>
  simp only [List.cons_append,wayW] at h ⊢
  split at h
  ·rfl
  ·exact ih h
theorem CnI.chg {w:World} {Bw c B:Nat} {st pre:List (List UInt8)} {W W':World} (h:CnI w Bw c st pre W) (hc:Chg B c W W') (h1:w.heap.size + 2 ≤ Bw) (h2:Bw < c) (h3:c < B):CnI w Bw c st pre W':=by
 obtain ⟨a,n,cp,ws,hv,hrow,hw,hg⟩:=h.way
 have hb:=h.big
 exact ⟨by rw [hc.low _ (by omega) (by omega) (by omega)];exact h.r1,by rw [hc.low _ (by omega) (by omega) (by omega)];exact h.r2,
  ⟨a,n,cp,ws,by rw [hc.low _ (by omega) (by omega) (by omega)];exact hv,own_kept hrow (fun g o hg' ho hcl=>hc.cells g o (hg g hg') ho hcl),hw,hg⟩,hc.below h.bel (by omega) (by omega),Nat.lt_of_lt_of_le hb hc.size⟩
set_option maxRecDepth 100000 in
set_option maxHeartbeats 1000000 in
theorem Clean_unclean (cwd s:List UInt8) (w:World) (hc:cwd.length ≤ 9223372036854775806) (h:cleanB cwd = false) :
  Calls Tryz.prog 123 #[sv cwd,sv s] w fun e w'=>e = .returned (.tuple #[.string ⟨#[]⟩,.int .i64 401]) ∧ Below w.heap.size w w':=by
 have HC:=Lib.hid (fun W:World=>clean_any cwd W hc)
 rw [h] at HC
 refine (callsIn_wide (n:=9)).1 (callsIn_of_wp_marks Tryz.func123 rfl trivial ?_ rfl)
 simp only [Tryz.ntmps123,List.size_toArray,List.length_cons,List.length_nil,Nat.reduceAdd,Nat.reduceSub,Array.replicate_succ,Array.replicate_zero,List.push_toArray,List.append_toArray,List.nil_append,List.cons_append]
 refine wpIn_wide.2 ?_
 have HR1:=Lib.hid (blk_old (blk_new w (.cells #[.string ⟨#[]⟩] 9 (0,0))) (.cells #[.int .i64 0] 26 (0,0)))
 have hr2:=blk_new (w.alloc (.cells #[.string ⟨#[]⟩] 9 (0,0))) (.cells #[.int .i64 0] 26 (0,0))
 rw [World.size_alloc] at hr2
 have HR2:=Lib.hid hr2
 have HBA:Hid (Below w.heap.size w ((w.alloc (.cells #[.string ⟨#[]⟩] 9 (0,0))).alloc (.cells #[.int .i64 0] 26 (0,0)))):=((Below.refl _ _).alloc (Nat.le_refl _) _).alloc (by simp) _
 clear hr2
 go_wp2_with fail
 (with_reducible refine (HC.out _).mono ?_);rintro e w1 ⟨rfl,hb1⟩
 have hr1:=blk_below HR1.out hb1
 have hr2:=blk_below HR2.out hb1
 have HB1:Hid (Below w.heap.size w w1):=HBA.out.trans (hb1.mono HBA.out.size)
 have c1:w1.cell? ⟨w.heap.size,0,none⟩ = some (.string ⟨#[]⟩):=by rw [blk_cell hr1];rfl
 have c2:w1.cell? ⟨w.heap.size + 1,0,none⟩ = some (.int .i64 0):=by rw [blk_cell hr2];rfl
 have f1:w1.frozen? ⟨w.heap.size,0,none⟩ = false:=blk_free hr1 0
 have f2:w1.frozen? ⟨w.heap.size + 1,0,none⟩ = false:=blk_free hr2 0
 clear hb1 hr1 hr2
 go_wp2_with fail
 exact ⟨.tuple #[.string ⟨#[]⟩,.int .i64 401],by simp [results,Tryz.results123,go_sem,c1,c2],rfl,(HB1.out.setCell (by simp) _).setCell (by simp) _⟩
set_option maxRecDepth 100000 in
set_option maxHeartbeats 1000000 in
theorem Clean_short (cwd s:List UInt8) (er:Int) (w:World) (hc:cwd.length ≤ 9223372036854775806) (hs:s.length ≤ 9223372036854775806) (h:cleanB cwd = true) (hb:(s = [] ∧ er = 400) ∨ (s ≠ [] ∧ 560 < s.length ∧ er = 403)) :
  Calls Tryz.prog 123 #[sv cwd,sv s] w fun e w'=>e = .returned (.tuple #[.string ⟨#[]⟩,.int .i64 er]) ∧ Below w.heap.size w w':=by
 have HC:=Lib.hid (fun W:World=>clean_any cwd W hc)
 have z:=str_size s
 rw [h] at HC
 refine (callsIn_wide (n:=9)).1 (callsIn_of_wp_marks Tryz.func123 rfl trivial ?_ rfl)
 simp only [Tryz.ntmps123,List.size_toArray,List.length_cons,List.length_nil,Nat.reduceAdd,Nat.reduceSub,Array.replicate_succ,Array.replicate_zero,List.push_toArray,List.append_toArray,List.nil_append,List.cons_append]
 refine wpIn_wide.2 ?_
 have HR1:=Lib.hid (blk_old (blk_new w (.cells #[.string ⟨#[]⟩] 9 (0,0))) (.cells #[.int .i64 0] 26 (0,0)))
 have hr2:=blk_new (w.alloc (.cells #[.string ⟨#[]⟩] 9 (0,0))) (.cells #[.int .i64 0] 26 (0,0))
 rw [World.size_alloc] at hr2
 have HR2:=Lib.hid hr2
 have HBA:Hid (Below w.heap.size w ((w.alloc (.cells #[.string ⟨#[]⟩] 9 (0,0))).alloc (.cells #[.int .i64 0] 26 (0,0)))):=((Below.refl _ _).alloc (Nat.le_refl _) _).alloc (by simp) _
 clear hr2
 go_wp2_with fail
 (with_reducible refine (HC.out _).mono ?_);rintro e w1 ⟨rfl,hb1⟩
 have hr1:=blk_below HR1.out hb1
 have hr2:=blk_below HR2.out hb1
 have HB1:Hid (Below w.heap.size w w1):=HBA.out.trans (hb1.mono HBA.out.size)
 have c1:w1.cell? ⟨w.heap.size,0,none⟩ = some (.string ⟨#[]⟩):=by rw [blk_cell hr1];rfl
 have c2:w1.cell? ⟨w.heap.size + 1,0,none⟩ = some (.int .i64 0):=by rw [blk_cell hr2];rfl
 have f1:w1.frozen? ⟨w.heap.size,0,none⟩ = false:=blk_free hr1 0
 have f2:w1.frozen? ⟨w.heap.size + 1,0,none⟩ = false:=blk_free hr2 0
 clear hb1 hr1 hr2
 rcases hb with ⟨rfl,rfl⟩ | ⟨h0,hbig,rfl⟩
 ·go_wp2_with fail
  exact ⟨.tuple #[.string ⟨#[]⟩,.int .i64 400],by simp [results,Tryz.results123,go_sem,c1,c2],rfl,(HB1.out.setCell (by simp) _).setCell (by simp) _⟩
 ·have b0:s.isEmpty = false:=by cases s <;> simp_all
  have b0':(s == []) = false:=by rw [beq_eq_false_iff_ne];exact h0
  clear h0
  go_wp2_with fail
  exact ⟨.tuple #[.string ⟨#[]⟩,.int .i64 403],by simp [results,Tryz.results123,go_sem,c1,c2],rfl,(HB1.out.setCell (by simp) _).setCell (by simp) _⟩
end Go.Proofs.YtifhnpkapgaboaaGreat.path
