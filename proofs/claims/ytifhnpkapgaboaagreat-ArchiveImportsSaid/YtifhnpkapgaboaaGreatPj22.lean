/-
  Proved: a field of entries by their paths (package archive): as a list, in memory; above, put, Many. Conditions: as each theorem says.
  Proved: fields of entries (plain): what is taken away, what an entry does; what a field does hangs on kinds alone. Conditions: as each theorem says. No program is in sight.
-/
import Derived.Test.YtifhnpkapgaboaaGreatPj17
import Derived.Test.YtifhnpkapgaboaaGreatPj21
set_option linter.unusedVariables false
set_option linter.unusedSimpArgs false
namespace Go.Proofs.YtifhnpkapgaboaaGreat.fld
open Go.RowKit
open heap maps
open path (sv str_size)
open arch (Ent entV PP entO)
set_option maxRecDepth 100000
abbrev Nm:=List UInt8
section
variable {α:Type}
def getA (k:Nm):List (Nm × α) → Option α
 | []=>none
 | x :: r=>if k = x.1 then some x.2 else getA k r
def updA (k:Nm) (v:α):List (Nm × α) → List (Nm × α)
 | [] => [(k,v)]
 | x :: r=>if k = x.1 then (k,v) :: r else x :: updA k v r
def delA (k:Nm) (l:List (Nm × α)):List (Nm × α):=l.filter fun x=>decide (x.1 ≠ k)
theorem look_get (f:α → Value) (k:Nm):∀ (l:List (Nm × α)) (i:Nat),(maps.look k (l.map fun x=>(x.1,f x.2)) i).map (·.2) = (getA k l).map f
 | [],i=>rfl
 | x :: r,i=>by
  rw [List.map_cons,maps.look,getA]
  by_cases h:k = x.1
  ·rw [if_pos h,if_pos h];rfl
  ·rw [if_neg h,if_neg h];exact look_get f k r (i + 1)
theorem look_is (f:α → Value) (k:Nm) (l:List (Nm × α)) (i:Nat):(maps.look k (l.map fun x=>(x.1,f x.2)) i).isSome = (getA k l).isSome:=by
 have:=congrArg Option.isSome (look_get f k l i)
 simpa using this
theorem look_shift (k:Nm):∀ (l:List (Nm × Value)) (i:Nat),maps.look k l (i + 1) = (maps.look k l i).map fun r=>(r.1 + 1,r.2)
 | [],i=>rfl
 | x :: r,i=>by
  rw [maps.look,maps.look]
  by_cases h:k = x.1
  ·rw [if_pos h,if_pos h];rfl
  ·rw [if_neg h,if_neg h];exact look_shift k r (i + 1)
theorem upd_cons (k:Nm) (v:Value) (x:Nm × Value) (r:List (Nm × Value)):upd k v (x :: r) = if k = x.1 then (k,v) :: r else x :: upd k v r:=by
 unfold upd
 rw [maps.look]
 by_cases h:k = x.1
 ·rw [if_pos h,if_pos h];rfl
 ·rw [if_neg h,if_neg h,look_shift]
  cases maps.look k r 0 with
  | none=>rfl
  | some q=>rfl
theorem upd_map (f:α → Value) (k:Nm) (v:α):∀ (l:List (Nm × α)),upd k (f v) (l.map fun x=>(x.1,f x.2)) = (updA k v l).map fun x=>(x.1,f x.2)
 | []=>rfl
 | x :: r=>by
  rw [List.map_cons,upd_cons,updA]
  by_cases h:k = x.1
  ·rw [if_pos h,if_pos h];rfl
  ·rw [if_neg h,if_neg h,List.map_cons,upd_map f k v r]
theorem del_map (f:α → Value) (k:Nm) (l:List (Nm × α)):del k (l.map fun x=>(x.1,f x.2)) = (delA k l).map fun x=>(x.1,f x.2):=by
 unfold del delA
 rw [List.filter_map]
 rfl
end
def aboveP (p:Nm):Nm:=p.take (max 0 (Lib.lastIndexByte ⟨p.toArray⟩ 47)).toNat
theorem last_le (p:Nm) : -1 ≤ Lib.lastIndexByte ⟨p.toArray⟩ 47 ∧ Lib.lastIndexByte ⟨p.toArray⟩ 47 ≤ p.length:=by
 have z:=str_size p
 rcases Lib.lastIndexByte_spec ⟨p.toArray⟩ 47 with ⟨h,-⟩ | ⟨i,hi,h,-⟩ <;> omega
theorem above_any (p:Nm) (w:World) (hp:p.length ≤ 1000000000):Calls Tryz.prog 68 #[sv p] w fun e w'=>e = .returned (sv (aboveP p)) ∧ w = w':=by
 have z:=str_size p
 obtain ⟨h1,h2⟩:=last_le p
 have HL:=Lib.hid (Tryz.strings_LastIndexByte ⟨p.toArray⟩ 47 (by omega) w)
 have hx:(⟨p.toArray⟩:ByteArray).extract 0 (max 0 (Lib.lastIndexByte ⟨p.toArray⟩ 47)).toNat = ⟨(aboveP p).toArray⟩:=by rw [path.cut_str];rfl
 generalize Lib.lastIndexByte ⟨p.toArray⟩ 47 = i at *
 go_enter Tryz.func68,Tryz.ntmps68
 go_wp2_with fail
 refine HL.out.mono ?_;rintro e w' ⟨rfl,rfl⟩
 by_cases hi:0 ≤ i
 ·have hm:max 0 i = i:=by omega
  rw [hm] at hx
  go_wp2_with fail
  go_ret
  exact ⟨rfl,rfl⟩
 ·have hm:max 0 i = 0:=by omega
  rw [hm] at hx
  have he:(⟨(aboveP p).toArray⟩:ByteArray) = ByteArray.empty:=by rw [← hx];simp
  go_wp2_with fail
  go_ret
  refine ⟨?_,rfl⟩
  change Ending.returned (.string ByteArray.empty) = .returned (.string ⟨(aboveP p).toArray⟩)
  rw [he]
structure Fld where
 nodes:List (Nm × Ent)
 kids:List (Nm × Int)
def nodeV (l:List (Nm × Ent)):List (Nm × Value):=l.map fun x=>(x.1,entV x.2)
def kidV (l:List (Nm × Int)):List (Nm × Value):=l.map fun x=>(x.1,.int .i64 x.2)
structure FldP (w:World) (f m k:Nat) (F:Fld):Prop where
 blk:w.heap[f]? = some (.cells #[.map (some m),.map (some k)] 119 (0,0))
 nodes:MapB w m (nodeV F.nodes)
 kids:MapB w k (kidV F.kids)
 ne:m ≠ k
theorem FldP.fm {w:World} {f m k:Nat} {F:Fld} (h:FldP w f m k F):f ≠ m:=fun e=>by
 obtain ⟨es,c,h1,-⟩:=h.nodes
 rw [← e,h.blk] at h1
 cases h1
theorem FldP.fk {w:World} {f m k:Nat} {F:Fld} (h:FldP w f m k F):f ≠ k:=fun e=>by
 obtain ⟨es,c,h1,-⟩:=h.kids
 rw [← e,h.blk] at h1
 cases h1
theorem FldP.turned {w w':World} {f m k:Nat} {F:Fld} {S:List Nat} (h:FldP w f m k F) (ht:Turned S w w') (h1:f ∉ S) (h2:m ∉ S) (h3:k ∉ S):FldP w' f m k F:=⟨ht.kept h.blk h1,h.nodes.turned ht h2,h.kids.turned ht h3,h.ne⟩
theorem FldP.below {w w':World} {f m k:Nat} {F:Fld} (h:FldP w f m k F) (hb:Below w.heap.size w w'):FldP w' f m k F:=h.turned (Turned.of_below (S := []) hb) (by simp) (by simp) (by simp)
def kidOf (F:Fld) (p:Nm):Int:=(getA p F.kids).getD 0
def putF (F:Fld) (e:Ent):Fld:=⟨updA e.path e F.nodes,updA (aboveP e.path) (IntKind.i64.wrap (kidOf F (aboveP e.path) + 1)) F.kids⟩
theorem runs_update {P:Program} {o:Oper} {a:Act} {w w':World} {m x y:Operand} {t:TypeId} {vm vx vy:Value} (ho:o.op = .mapUpdate t m x y) (hm:a.eval m = vm) (hx:a.eval x = vx) (hy:a.eval y = vy)
  (hr:(Instr.mapUpdate t vm vx vy).run P w = .ok () w'):reg.Runs P o a w (.ok .skip w'):=by
 intro ev h1 h2 h3 h4
 rw [h4] at hm hx hy
 simp [execOp,ho,hm,hx,hy,hr,Result.andThen]
def UX (k n j:Nat) (w w':World):Prop:=w' = w ∨ (j = n ∧ Turned [k] w w')
theorem UX.same {k n j:Nat} {w w':World} (h:UX k n j w w') (hj:n ≠ j):w' = w:=h.resolve_right fun e=>hj e.1.symm
theorem wpList_updateB {P:Program} {w:World} {ops:Array Oper} {rest:List Oper} {o:Oper} {a:Act} {Q:Exit → Act → World → Prop} {t kt et:TypeId} {m x y:Operand} {b:Nat} {l:List (Nm × Value)} {k:Nm} {v:Value} (hgd:o.guard = none)
  (ho:o.op = .mapUpdate t m x y) (ht:P.underlying t = some (.map kt et)) (hk:P.underlying kt = some .string) (hm:a.eval m = .map (some b)) (hx:a.eval x = .string ⟨k.toArray⟩) (hy:a.eval y = v) (h:MapB w b l)
  (hn:∀ w',MapB w' b (upd k v l) → Turned [b] w w' → wpList P ops Q rest (a.put o.dst undef) w'):wpList P ops Q (o :: rest) a w:=by
 refine wpList_plain hgd fun K hK => ?_
 obtain ⟨w',h1,h2,h3⟩:=run_updateB h ht hk k v
 unfold Oper.wp
 simp [execOp,ho,hm,hx,hy,h1,Result.andThen]
 exact hK _ _ (hn w' h2 h3)
theorem kid_look {w:World} {k:Nat} {l:List (Nm × Int)} (h:MapB w k (kidV l)) (p:Nm):(Instr.lookup 117 (.map (some k)) (.string ⟨p.toArray⟩) false).run Tryz.prog w = .ok (.int .i64 ((getA p l).getD 0)) w:=by
 rw [run_lookup h.s Tryz.underlying117 Tryz.underlying9 (.int .i64 0) (by kernel_rfl) p,show kidV l = l.map (fun x=>(x.1,Value.int .i64 x.2)) from rfl,look_get]
 cases getA p l <;> rfl
theorem Many_any (w:World) (f m k:Nat) (F:Fld) (h:FldP w f m k F):Calls Tryz.prog 31 #[PP f] w fun e w'=>e = .returned (.int .i64 F.nodes.length) ∧ w = w':=by
 have c0:=blk_cell h.blk 0
 have hl:=blk_lt h.blk
 simp only [List.getElem?_toArray,List.getElem?_cons_zero] at c0
 obtain ⟨es,c,hm,hc,-⟩:=h.nodes
 have hsz:es.size = F.nodes.length:=by simpa [nodeV] using congrArg List.length hc
 have hlen:(Builtin.len_ #[116] 3 #[.map (some m)]).run Tryz.prog w = .ok (.int .i64 F.nodes.length) w:=by
  simp [Builtin.len_,Builtin.lenOf,MapKept.run_getObj_map hm,hsz,Result.andThen,goInt]
 clear h
 go_enter Tryz.func31,Tryz.ntmps31
 go_wp2_with fail
 go_ret
 exact ⟨rfl,rfl⟩
set_option maxHeartbeats 1000000 in
theorem put_any (w:World) (f m k:Nat) (F:Fld) (e:Ent) (h:FldP w f m k F) (hp:e.path.length ≤ 1000000000) :
  Calls Tryz.prog 66 #[PP f,entV e] w fun r w'=>r = .returned (.tuple #[]) ∧ FldP w' f m k (putF F e) ∧ Turned [m,k] w w':=by
 have HF:=Lib.hid h
 have HX:=Lib.hid (blk_new w (entO e))
 have HF1:=Lib.hid (h.below ((Below.refl _ _).alloc (Nat.le_refl _) (entO e)))
 have HT:Hid (Turned [m,k] w (w.alloc (entO e))):=(Turned.refl _ _).alloc _
 have hfl:=blk_lt h.blk
 clear h
 go_enter Tryz.func66,Tryz.ntmps66
 go_wp2_with fail
 change Code.wp _ _ _ _ (w.alloc (entO e))
 have hwn:w.heap.size ∉ [m,k]:=by
  have h1:=HF.out.nodes.lt
  have h2:=HF.out.kids.lt
  simp;omega
 generalize w.alloc (entO e) = w1 at *
 have x0:=blk_cell (HX.out) 0
 have x1:=blk_cell (HX.out) 1
 have x2:=blk_cell (HX.out) 2
 have x3:=blk_cell (HX.out) 3
 have xl:=blk_lt (HX.out)
 simp only [List.getElem?_toArray,List.getElem?_cons_zero,List.getElem?_cons_succ] at x0 x1 x2 x3
 have c0:=blk_cell HF1.out.blk 0
 have cl:=blk_lt HF1.out.blk
 simp only [List.getElem?_toArray,List.getElem?_cons_zero] at c0
 have HND:Hid (MapB w1.drew m (nodeV F.nodes)):=HF1.out.nodes.turned (Turned.refl [] _).drew (by simp)
 go_still_tail 7,(by kernel_rfl)
 change wpList _ _ _ _ _ w1.drew
 refine wpList_updateB (v:=entV e) rfl rfl Tryz.underlying116 Tryz.underlying9 rfl rfl rfl HND.out ?_
 intro w2 hm' ht'
 have hT2:Turned [m] w1 w2:=((Turned.refl [m] w1).drew).trans ht'
 have hmap:=upd_map entV e.path e F.nodes
 have hm2:MapB w2 m (nodeV (updA e.path e F.nodes)):=by
  rw [show nodeV (updA e.path e F.nodes) = upd e.path (entV e) (nodeV F.nodes) from hmap.symm];exact hm'
 have HF2:Hid (FldP w2 f m k ⟨updA e.path e F.nodes,F.kids⟩):=⟨hT2.kept HF1.out.blk (by simp;exact HF1.out.fm),hm2,HF1.out.kids.turned hT2 (by simp;exact fun e=>HF1.out.ne e.symm),HF1.out.ne⟩
 have HX2:=Lib.hid (hT2.kept HX.out (by simp at hwn ⊢;exact hwn.1))
 have HT2:Hid (Turned [m,k] w w2):=HT.out.trans (hT2.mono (by simp))
 clear hm' ht' hT2 hmap hm2 HT HX HF1 HND c0 cl x0 x1 x2 x3 xl
 go_wp2_with fail
 have x0:=blk_cell (HX2.out) 0
 have x1:=blk_cell (HX2.out) 1
 have x2:=blk_cell (HX2.out) 2
 have x3:=blk_cell (HX2.out) 3
 have xl:=blk_lt (HX2.out)
 simp only [List.getElem?_toArray,List.getElem?_cons_zero,List.getElem?_cons_succ] at x0 x1 x2 x3
 have c1:=blk_cell HF2.out.blk 1
 have c0:=blk_cell HF2.out.blk 0
 have cl:=blk_lt HF2.out.blk
 simp only [List.getElem?_toArray,List.getElem?_cons_zero,List.getElem?_cons_succ] at c1 c0
 have HKD:Hid (MapB w2.drew k (kidV F.kids)):=HF2.out.kids.turned (Turned.refl [] _).drew (by simp)
 have hlk:=kid_look HKD.out (aboveP e.path)
 obtain ⟨w3,hrun,hm3,ht3⟩:=run_updateB (P:=Tryz.prog) HKD.out Tryz.underlying117 Tryz.underlying9 (aboveP e.path) (.int .i64 (IntKind.i64.wrap ((getA (aboveP e.path) F.kids).getD 0 + 1)))
 have HRUN:=Lib.hid hrun
 have HM3:=Lib.hid hm3
 have HT3:=Lib.hid ht3
 have HLK:=Lib.hid hlk
 have HAB:=Lib.hid (above_any e.path w2.drew hp)
 clear hrun hm3 ht3 hlk
 refine reg.region_eachG (by kernel_rfl) (UX k 9) (fun w'=>True) (fun ri v w'=>match ri with
   | 0=>v = PP f
   | 1=>v = PP f
   | 2=>v = .pointer (some ⟨f,1,none⟩)
   | 3=>v = .map (some k)
   | 4=>v = .pointer (some ⟨w.heap.size,0,none⟩)
   | 5=>v = sv e.path
   | 6=>v = sv (aboveP e.path)
   | 7=>v = .int .i64 ((getA (aboveP e.path) F.kids).getD 0)
   | 8=>v = .int .i64 (IntKind.i64.wrap ((getA (aboveP e.path) F.kids).getD 0 + 1))
   | 9=>w' = w3
   | _=>True) (fun rk w'=>match rk with
   | 9=>w' = w2.drew
   | _=>True) ?_ ?_ ?_ ?_ ?_ (by kernel_rfl) ?_ ?_
 ·trivial
 ·
  intro k
  split <;> first | trivial | (rfl)
 ·
  intro j w1 w2 h hx
  trivial
 ·
  intro j i v w1 w2 hij hj hr h hx
  rcases i with _|_|_|_|_|_|_|_|_|_|i
  ·exact h
  ·exact h
  ·exact h
  ·exact h
  ·exact h
  ·exact h
  ·exact h
  ·exact h
  ·exact h
  ·exact (reg.last_no (by kernel_rfl) hij hj hr).elim
  ·trivial
 ·
  intro j k w1 w2 hkj h hx
  split at h <;> first | exact h | exact (hx.same hkj).trans h
 ·
  refine ⟨?_,?_,?_,?_,?_,?_,?_,?_,?_,?_,trivial⟩
  ·-- 0: slot 11:=Op.move t0
   intro ra w' hx hg hs
   have s0:ra.eval (.tmp 0) = PP f:=hs.1
   clear hs
   have hw:=hg 9 rfl
   have x0:w'.cell? ⟨w.heap.size,0,none⟩ = some (.string ⟨e.path.toArray⟩):=by rw [hw];exact x0
   have c1:w'.cell? ⟨f,1,none⟩ = some (.map (some k)):=by rw [hw];exact c1
   have cl:f < w'.heap.size:=by rw [hw];exact cl
   have HLK:Hid ((Instr.lookup 117 (.map (some k)) (.string ⟨(aboveP e.path).toArray⟩) false).run Tryz.prog w' = .ok (.int .i64 ((getA (aboveP e.path) F.kids).getD 0)) w'):=by rw [hw];exact HLK
   have HAB:Hid (Calls Tryz.prog 68 #[sv e.path] w' fun r w''=>r = .returned (sv (aboveP e.path)) ∧ w' = w''):=by rw [hw];exact HAB
   have HRUN:Hid ((Instr.mapUpdate 117 (.map (some k)) (.string ⟨(aboveP e.path).toArray⟩) (.int .i64 (IntKind.i64.wrap ((getA (aboveP e.path) F.kids).getD 0 + 1)))).run Tryz.prog w' = .ok () w3):=by rw [hw];exact HRUN
   have HT3:Hid (Turned [k] w' w3):=by rw [hw];exact HT3
   change Oper.wp _ _ ra w' _ _
   refine reg.wp_value (v:=PP f) (w':=w') ?_ ⟨_,rfl,.inl rfl,rfl⟩
   intro ρ rc rf rg re
   rw [re] at s0
   simp [execOp,go_sem,rc,rf,rg,s0] <;> first | omega | rfl | decide
  ·-- 1: slot 12:=Op.nilCheck t11
   intro ra w' hx hg hs
   have s11:ra.eval (.tmp 11) = PP f:=hs.1
   clear hs
   have hw:=hg 9 rfl
   have x0:w'.cell? ⟨w.heap.size,0,none⟩ = some (.string ⟨e.path.toArray⟩):=by rw [hw];exact x0
   have c1:w'.cell? ⟨f,1,none⟩ = some (.map (some k)):=by rw [hw];exact c1
   have cl:f < w'.heap.size:=by rw [hw];exact cl
   have HLK:Hid ((Instr.lookup 117 (.map (some k)) (.string ⟨(aboveP e.path).toArray⟩) false).run Tryz.prog w' = .ok (.int .i64 ((getA (aboveP e.path) F.kids).getD 0)) w'):=by rw [hw];exact HLK
   have HAB:Hid (Calls Tryz.prog 68 #[sv e.path] w' fun r w''=>r = .returned (sv (aboveP e.path)) ∧ w' = w''):=by rw [hw];exact HAB
   have HRUN:Hid ((Instr.mapUpdate 117 (.map (some k)) (.string ⟨(aboveP e.path).toArray⟩) (.int .i64 (IntKind.i64.wrap ((getA (aboveP e.path) F.kids).getD 0 + 1)))).run Tryz.prog w' = .ok () w3):=by rw [hw];exact HRUN
   have HT3:Hid (Turned [k] w' w3):=by rw [hw];exact HT3
   change Oper.wp _ _ ra w' _ _
   refine reg.wp_value (v:=PP f) (w':=w') ?_ ⟨_,rfl,.inl rfl,rfl⟩
   intro ρ rc rf rg re
   rw [re] at s11
   simp [execOp,go_sem,rc,rf,rg,s11,cl] <;> first | omega | rfl | decide
  ·-- 2: slot 13:=Op.fieldAddr 119 t12 1
   intro ra w' hx hg hs
   have s12:ra.eval (.tmp 12) = PP f:=hs.1
   clear hs
   have hw:=hg 9 rfl
   have x0:w'.cell? ⟨w.heap.size,0,none⟩ = some (.string ⟨e.path.toArray⟩):=by rw [hw];exact x0
   have c1:w'.cell? ⟨f,1,none⟩ = some (.map (some k)):=by rw [hw];exact c1
   have cl:f < w'.heap.size:=by rw [hw];exact cl
   have HLK:Hid ((Instr.lookup 117 (.map (some k)) (.string ⟨(aboveP e.path).toArray⟩) false).run Tryz.prog w' = .ok (.int .i64 ((getA (aboveP e.path) F.kids).getD 0)) w'):=by rw [hw];exact HLK
   have HAB:Hid (Calls Tryz.prog 68 #[sv e.path] w' fun r w''=>r = .returned (sv (aboveP e.path)) ∧ w' = w''):=by rw [hw];exact HAB
   have HRUN:Hid ((Instr.mapUpdate 117 (.map (some k)) (.string ⟨(aboveP e.path).toArray⟩) (.int .i64 (IntKind.i64.wrap ((getA (aboveP e.path) F.kids).getD 0 + 1)))).run Tryz.prog w' = .ok () w3):=by rw [hw];exact HRUN
   have HT3:Hid (Turned [k] w' w3):=by rw [hw];exact HT3
   change Oper.wp _ _ ra w' _ _
   refine reg.wp_value (v:=.pointer (some ⟨f,1,none⟩)) (w':=w') ?_ ⟨_,rfl,.inl rfl,rfl⟩
   intro ρ rc rf rg re
   rw [re] at s12
   simp [execOp,go_sem,rc,rf,rg,s12] <;> first | omega | rfl | decide
  ·-- 3: slot 14:=Op.load 117 t13
   intro ra w' hx hg hs
   have s13:ra.eval (.tmp 13) = .pointer (some ⟨f,1,none⟩):=hs.1
   clear hs
   have hw:=hg 9 rfl
   have x0:w'.cell? ⟨w.heap.size,0,none⟩ = some (.string ⟨e.path.toArray⟩):=by rw [hw];exact x0
   have c1:w'.cell? ⟨f,1,none⟩ = some (.map (some k)):=by rw [hw];exact c1
   have cl:f < w'.heap.size:=by rw [hw];exact cl
   have HLK:Hid ((Instr.lookup 117 (.map (some k)) (.string ⟨(aboveP e.path).toArray⟩) false).run Tryz.prog w' = .ok (.int .i64 ((getA (aboveP e.path) F.kids).getD 0)) w'):=by rw [hw];exact HLK
   have HAB:Hid (Calls Tryz.prog 68 #[sv e.path] w' fun r w''=>r = .returned (sv (aboveP e.path)) ∧ w' = w''):=by rw [hw];exact HAB
   have HRUN:Hid ((Instr.mapUpdate 117 (.map (some k)) (.string ⟨(aboveP e.path).toArray⟩) (.int .i64 (IntKind.i64.wrap ((getA (aboveP e.path) F.kids).getD 0 + 1)))).run Tryz.prog w' = .ok () w3):=by rw [hw];exact HRUN
   have HT3:Hid (Turned [k] w' w3):=by rw [hw];exact HT3
   change Oper.wp _ _ ra w' _ _
   refine reg.wp_value (v:=.map (some k)) (w':=w') ?_ ⟨_,rfl,.inl rfl,rfl⟩
   intro ρ rc rf rg re
   rw [re] at s13
   simp [execOp,go_sem,rc,rf,rg,s13,c1] <;> first | omega | rfl | decide
  ·-- 4: slot 15:=Op.fieldAddr 58 t3 0
   intro ra w' hx hg hs
   have s3:ra.eval (.tmp 3) = .pointer (some ⟨w.heap.size,0,none⟩):=hs.1
   clear hs
   have hw:=hg 9 rfl
   have x0:w'.cell? ⟨w.heap.size,0,none⟩ = some (.string ⟨e.path.toArray⟩):=by rw [hw];exact x0
   have c1:w'.cell? ⟨f,1,none⟩ = some (.map (some k)):=by rw [hw];exact c1
   have cl:f < w'.heap.size:=by rw [hw];exact cl
   have HLK:Hid ((Instr.lookup 117 (.map (some k)) (.string ⟨(aboveP e.path).toArray⟩) false).run Tryz.prog w' = .ok (.int .i64 ((getA (aboveP e.path) F.kids).getD 0)) w'):=by rw [hw];exact HLK
   have HAB:Hid (Calls Tryz.prog 68 #[sv e.path] w' fun r w''=>r = .returned (sv (aboveP e.path)) ∧ w' = w''):=by rw [hw];exact HAB
   have HRUN:Hid ((Instr.mapUpdate 117 (.map (some k)) (.string ⟨(aboveP e.path).toArray⟩) (.int .i64 (IntKind.i64.wrap ((getA (aboveP e.path) F.kids).getD 0 + 1)))).run Tryz.prog w' = .ok () w3):=by rw [hw];exact HRUN
   have HT3:Hid (Turned [k] w' w3):=by rw [hw];exact HT3
   change Oper.wp _ _ ra w' _ _
   refine reg.wp_value (v:=.pointer (some ⟨w.heap.size,0,none⟩)) (w':=w') ?_ ⟨_,rfl,.inl rfl,rfl⟩
   intro ρ rc rf rg re
   rw [re] at s3
   simp [execOp,go_sem,rc,rf,rg,s3] <;> first | omega | rfl | decide
  ·-- 5: slot 16:=Op.load 9 t15
   intro ra w' hx hg hs
   have s15:ra.eval (.tmp 15) = .pointer (some ⟨w.heap.size,0,none⟩):=hs.1
   clear hs
   have hw:=hg 9 rfl
   have x0:w'.cell? ⟨w.heap.size,0,none⟩ = some (.string ⟨e.path.toArray⟩):=by rw [hw];exact x0
   have c1:w'.cell? ⟨f,1,none⟩ = some (.map (some k)):=by rw [hw];exact c1
   have cl:f < w'.heap.size:=by rw [hw];exact cl
   have HLK:Hid ((Instr.lookup 117 (.map (some k)) (.string ⟨(aboveP e.path).toArray⟩) false).run Tryz.prog w' = .ok (.int .i64 ((getA (aboveP e.path) F.kids).getD 0)) w'):=by rw [hw];exact HLK
   have HAB:Hid (Calls Tryz.prog 68 #[sv e.path] w' fun r w''=>r = .returned (sv (aboveP e.path)) ∧ w' = w''):=by rw [hw];exact HAB
   have HRUN:Hid ((Instr.mapUpdate 117 (.map (some k)) (.string ⟨(aboveP e.path).toArray⟩) (.int .i64 (IntKind.i64.wrap ((getA (aboveP e.path) F.kids).getD 0 + 1)))).run Tryz.prog w' = .ok () w3):=by rw [hw];exact HRUN
   have HT3:Hid (Turned [k] w' w3):=by rw [hw];exact HT3
   change Oper.wp _ _ ra w' _ _
   refine reg.wp_value (v:=sv e.path) (w':=w') ?_ ⟨_,rfl,.inl rfl,rfl⟩
   intro ρ rc rf rg re
   rw [re] at s15
   simp [execOp,go_sem,rc,rf,rg,s15,x0] <;> first | omega | rfl | decide
  ·-- 6: slot 17:=Op.call { value (Operand.func 68),args := #[t16],argTypes := #[9] }
   intro ra w' hx hg hs
   have s16:ra.eval (.tmp 16) = sv e.path:=hs.1
   clear hs
   have hw:=hg 9 rfl
   have x0:w'.cell? ⟨w.heap.size,0,none⟩ = some (.string ⟨e.path.toArray⟩):=by rw [hw];exact x0
   have c1:w'.cell? ⟨f,1,none⟩ = some (.map (some k)):=by rw [hw];exact c1
   have cl:f < w'.heap.size:=by rw [hw];exact cl
   have HLK:Hid ((Instr.lookup 117 (.map (some k)) (.string ⟨(aboveP e.path).toArray⟩) false).run Tryz.prog w' = .ok (.int .i64 ((getA (aboveP e.path) F.kids).getD 0)) w'):=by rw [hw];exact HLK
   have HAB:Hid (Calls Tryz.prog 68 #[sv e.path] w' fun r w''=>r = .returned (sv (aboveP e.path)) ∧ w' = w''):=by rw [hw];exact HAB
   have HRUN:Hid ((Instr.mapUpdate 117 (.map (some k)) (.string ⟨(aboveP e.path).toArray⟩) (.int .i64 (IntKind.i64.wrap ((getA (aboveP e.path) F.kids).getD 0 + 1)))).run Tryz.prog w' = .ok () w3):=by rw [hw];exact HRUN
   have HT3:Hid (Turned [k] w' w3):=by rw [hw];exact HT3
   change Oper.wp _ _ ra w' _ _
   refine reg.wp_call (f:=68) (args := #[sv e.path]) (w':=w') ?_ ?_
   ·intro ρ rc rf rg re
    rw [re] at s16
    simp [execOp,go_sem,rc,rf,rg,s16] <;> first | omega | rfl | decide
   refine HAB.out.mono ?_
   rintro r w'' ⟨rfl,rfl⟩
   exact ⟨_,rfl,_,rfl,.inl rfl,rfl⟩
  ·-- 7: slot 18:=Op.lookup 117 t14 t17 false
   intro ra w' hx hg hs
   have s14:ra.eval (.tmp 14) = .map (some k):=hs.1
   have s17:ra.eval (.tmp 17) = sv (aboveP e.path):=hs.2.1
   clear hs
   have hw:=hg 9 rfl
   have x0:w'.cell? ⟨w.heap.size,0,none⟩ = some (.string ⟨e.path.toArray⟩):=by rw [hw];exact x0
   have c1:w'.cell? ⟨f,1,none⟩ = some (.map (some k)):=by rw [hw];exact c1
   have cl:f < w'.heap.size:=by rw [hw];exact cl
   have HLK:Hid ((Instr.lookup 117 (.map (some k)) (.string ⟨(aboveP e.path).toArray⟩) false).run Tryz.prog w' = .ok (.int .i64 ((getA (aboveP e.path) F.kids).getD 0)) w'):=by rw [hw];exact HLK
   have HAB:Hid (Calls Tryz.prog 68 #[sv e.path] w' fun r w''=>r = .returned (sv (aboveP e.path)) ∧ w' = w''):=by rw [hw];exact HAB
   have HRUN:Hid ((Instr.mapUpdate 117 (.map (some k)) (.string ⟨(aboveP e.path).toArray⟩) (.int .i64 (IntKind.i64.wrap ((getA (aboveP e.path) F.kids).getD 0 + 1)))).run Tryz.prog w' = .ok () w3):=by rw [hw];exact HRUN
   have HT3:Hid (Turned [k] w' w3):=by rw [hw];exact HT3
   change Oper.wp _ _ ra w' _ _
   refine reg.wp_value (v:=.int .i64 ((getA (aboveP e.path) F.kids).getD 0)) (w':=w') ?_ ⟨_,rfl,.inl rfl,rfl⟩
   intro ρ rc rf rg re
   rw [re] at s14 s17
   simp [execOp,go_sem,rc,rf,rg,s14,s17,HLK.out] <;> first | omega | rfl | decide
  ·-- 8: slot 19:=Op.binOp BinOp.add 3 t18 (const (1:i64)) 3
   intro ra w' hx hg hs
   have s18:ra.eval (.tmp 18) = .int .i64 ((getA (aboveP e.path) F.kids).getD 0):=hs.1
   clear hs
   have hw:=hg 9 rfl
   have x0:w'.cell? ⟨w.heap.size,0,none⟩ = some (.string ⟨e.path.toArray⟩):=by rw [hw];exact x0
   have c1:w'.cell? ⟨f,1,none⟩ = some (.map (some k)):=by rw [hw];exact c1
   have cl:f < w'.heap.size:=by rw [hw];exact cl
   have HLK:Hid ((Instr.lookup 117 (.map (some k)) (.string ⟨(aboveP e.path).toArray⟩) false).run Tryz.prog w' = .ok (.int .i64 ((getA (aboveP e.path) F.kids).getD 0)) w'):=by rw [hw];exact HLK
   have HAB:Hid (Calls Tryz.prog 68 #[sv e.path] w' fun r w''=>r = .returned (sv (aboveP e.path)) ∧ w' = w''):=by rw [hw];exact HAB
   have HRUN:Hid ((Instr.mapUpdate 117 (.map (some k)) (.string ⟨(aboveP e.path).toArray⟩) (.int .i64 (IntKind.i64.wrap ((getA (aboveP e.path) F.kids).getD 0 + 1)))).run Tryz.prog w' = .ok () w3):=by rw [hw];exact HRUN
   have HT3:Hid (Turned [k] w' w3):=by rw [hw];exact HT3
   change Oper.wp _ _ ra w' _ _
   refine reg.wp_value (v:=.int .i64 (IntKind.i64.wrap ((getA (aboveP e.path) F.kids).getD 0 + 1))) (w':=w') ?_ ⟨_,rfl,.inl rfl,rfl⟩
   intro ρ rc rf rg re
   rw [re] at s18
   simp [execOp,go_sem,rc,rf,rg,s18] <;> first | omega | rfl | decide
  ·-- 9: slot None:=Op.mapUpdate 117 t14 t17 t19
   intro ra w' hx hg hs
   have s14:ra.eval (.tmp 14) = .map (some k):=hs.1
   have s17:ra.eval (.tmp 17) = sv (aboveP e.path):=hs.2.1
   have s19:ra.eval (.tmp 19) = .int .i64 (IntKind.i64.wrap ((getA (aboveP e.path) F.kids).getD 0 + 1)):=hs.2.2.1
   clear hs
   have hw:=hg 9 rfl
   have x0:w'.cell? ⟨w.heap.size,0,none⟩ = some (.string ⟨e.path.toArray⟩):=by rw [hw];exact x0
   have c1:w'.cell? ⟨f,1,none⟩ = some (.map (some k)):=by rw [hw];exact c1
   have cl:f < w'.heap.size:=by rw [hw];exact cl
   have HLK:Hid ((Instr.lookup 117 (.map (some k)) (.string ⟨(aboveP e.path).toArray⟩) false).run Tryz.prog w' = .ok (.int .i64 ((getA (aboveP e.path) F.kids).getD 0)) w'):=by rw [hw];exact HLK
   have HAB:Hid (Calls Tryz.prog 68 #[sv e.path] w' fun r w''=>r = .returned (sv (aboveP e.path)) ∧ w' = w''):=by rw [hw];exact HAB
   have HRUN:Hid ((Instr.mapUpdate 117 (.map (some k)) (.string ⟨(aboveP e.path).toArray⟩) (.int .i64 (IntKind.i64.wrap ((getA (aboveP e.path) F.kids).getD 0 + 1)))).run Tryz.prog w' = .ok () w3):=by rw [hw];exact HRUN
   have HT3:Hid (Turned [k] w' w3):=by rw [hw];exact HT3
   change Oper.wp _ _ ra w' _ _
   refine reg.wp_skip (w':=w3) (runs_update rfl s14 s17 s19 HRUN.out) ⟨_,rfl,.inr ⟨rfl,HT3.out⟩,rfl⟩
 intro rV w4 hx hf
 have ve0:rV 0 = PP f:=hf 0 (by decide)
 have ve1:rV 1 = PP f:=hf 1 (by decide)
 have ve2:rV 2 = .pointer (some ⟨f,1,none⟩):=hf 2 (by decide)
 have ve3:rV 3 = .map (some k):=hf 3 (by decide)
 have ve4:rV 4 = .pointer (some ⟨w.heap.size,0,none⟩):=hf 4 (by decide)
 have ve5:rV 5 = sv e.path:=hf 5 (by decide)
 have ve6:rV 6 = sv (aboveP e.path):=hf 6 (by decide)
 have ve7:rV 7 = .int .i64 ((getA (aboveP e.path) F.kids).getD 0):=hf 7 (by decide)
 have ve8:rV 8 = .int .i64 (IntKind.i64.wrap ((getA (aboveP e.path) F.kids).getD 0 + 1)):=hf 8 (by decide)
 have ve9:=hf 9 (by decide)
 clear hf
 simp only [List.zipIdx_cons,List.zipIdx_nil,List.foldl_cons,List.foldl_nil,Act.put,Nat.reduceAdd,List.setIfInBounds_toArray,List.set_cons_succ,List.set_cons_zero,ve0,ve1,ve2,ve3,ve4,ve5,ve6,ve7,ve8]
 clear ve0 ve1 ve2 ve3 ve4 ve5 ve6 ve7 ve8
 generalize rV 9 = v9 at *
 clear rV
 subst ve9
 have hkd:kidV (updA (aboveP e.path) (IntKind.i64.wrap ((getA (aboveP e.path) F.kids).getD 0 + 1)) F.kids) = upd (aboveP e.path) (.int .i64 (IntKind.i64.wrap ((getA (aboveP e.path) F.kids).getD 0 + 1))) (kidV F.kids):=(upd_map (fun z:Int=>Value.int .i64 z) (aboveP e.path) _ F.kids).symm
 have hT3:Turned [k] w2 w4:=((Turned.refl [k] w2).drew).trans HT3.out
 have HF4:Hid (FldP w4 f m k (putF F e)):=⟨hT3.kept HF2.out.blk (by simp;exact HF2.out.fk),HF2.out.nodes.turned hT3 (by simp;exact HF2.out.ne),by rw [show (putF F e).kids = updA (aboveP e.path) (IntKind.i64.wrap ((getA (aboveP e.path) F.kids).getD 0 + 1)) F.kids from rfl,hkd];exact HM3.out,HF2.out.ne⟩
 have HT4:Hid (Turned [m,k] w w4):=HT2.out.trans (hT3.mono (by simp))
 clear hT3 hkd
 go_wp2_with fail
 go_end0
 exact ⟨rfl,HF4.out,HT4.out⟩
end Go.Proofs.YtifhnpkapgaboaaGreat.fld
namespace Go.Proofs.YtifhnpkapgaboaaGreat.fld
open Go Go.RowKit
open arch (Ent e0)
def subB (p q:Nm):Bool:=(p ++ [47]).isPrefixOf q
def cutF (F:Fld) (p:Nm):Fld:=if 0 < kidOf F p then ⟨F.nodes.filter fun x => !subB p x.1,F.kids.filter fun x => !(subB p x.1 && (getA x.1 F.nodes).isSome)⟩ else F
def goneF (F:Fld) (p:Nm):Fld:=⟨delA p (cutF F p).nodes,updA (aboveP p) (IntKind.i64.wrap ((getA (aboveP p) (delA p (cutF F p).kids)).getD 0 - 1)) (delA p (cutF F p).kids)⟩
def applyF (F:Fld) (e:Ent):Option Fld:=
 if aboveP e.path ≠ [] ∧ ((getA (aboveP e.path) F.nodes).getD e0).kind ≠ 1 then none
 else if e.kind = 4 ∧ (getA e.path F.nodes).isSome = false then none
 else if e.kind = 1 ∧ ((getA e.path F.nodes).getD e0).kind = 1 then some ⟨updA e.path { ((getA e.path F.nodes).getD e0) with mode:=e.mode } F.nodes,F.kids⟩
 else if e.kind = 4 then some (if (getA e.path F.nodes).isSome = true then goneF F e.path else F)
 else some (putF (if (getA e.path F.nodes).isSome = true then goneF F e.path else F) (if e.kind = 5 then { e with kind:=1 } else e))
section
variable {α β:Type}
theorem getA_map (f:α → β) (k:Nm):∀ l:List (Nm × α),getA k (l.map fun x=>(x.1,f x.2)) = (getA k l).map f
 | []=>rfl
 | x :: r=>by
  rw [List.map_cons,getA,getA]
  by_cases h:k = x.1
  ·rw [if_pos h,if_pos h];rfl
  ·rw [if_neg h,if_neg h];exact getA_map f k r
theorem updA_map (f:α → β) (k:Nm) (v:α):∀ l:List (Nm × α),updA k (f v) (l.map fun x=>(x.1,f x.2)) = (updA k v l).map fun x=>(x.1,f x.2)
 | []=>rfl
 | x :: r=>by
  rw [List.map_cons,updA,updA]
  by_cases h:k = x.1
  ·rw [if_pos h,if_pos h];rfl
  ·rw [if_neg h,if_neg h,List.map_cons,updA_map f k v r]
theorem filt_map (f:α → β) (p:Nm → Bool) (l:List (Nm × α)):(l.map fun x=>(x.1,f x.2)).filter (fun x=>p x.1) = (l.filter fun x=>p x.1).map fun x=>(x.1,f x.2):=by rw [List.filter_map];rfl
theorem delA_map (f:α → β) (k:Nm) (l:List (Nm × α)):delA k (l.map fun x=>(x.1,f x.2)) = (delA k l).map fun x=>(x.1,f x.2):=filt_map f (fun q=>decide (q ≠ k)) l
end
def kd (l:List (Nm × Ent)):List (Nm × Int):=l.map fun x=>(x.1,x.2.kind)
structure Sk (F G:Fld):Prop where
 n:kd F.nodes = kd G.nodes
 k:F.kids = G.kids
theorem Sk.refl (F:Fld):Sk F F:=⟨rfl,rfl⟩
theorem Sk.get {F G:Fld} (h:Sk F G) (k:Nm):(getA k F.nodes).map Ent.kind = (getA k G.nodes).map Ent.kind:=by
 rw [← getA_map,← getA_map];exact congrArg (getA k) h.n
theorem Sk.is {F G:Fld} (h:Sk F G) (k:Nm):(getA k F.nodes).isSome = (getA k G.nodes).isSome:=by
 have:=congrArg Option.isSome (h.get k)
 simpa using this
theorem Sk.kind {F G:Fld} (h:Sk F G) (k:Nm):((getA k F.nodes).getD e0).kind = ((getA k G.nodes).getD e0).kind:=by
 have:=h.get k
 cases h1:getA k F.nodes <;> cases h2:getA k G.nodes <;> simp [h1,h2] at this ⊢
 exact this
theorem Sk.len {F G:Fld} (h:Sk F G):F.nodes.length = G.nodes.length:=by
 have:=congrArg List.length h.n
 simpa [kd] using this
theorem Sk.cut {F G:Fld} (h:Sk F G) (p:Nm):Sk (cutF F p) (cutF G p):=by
 unfold cutF kidOf
 rw [h.k]
 split
 ·refine ⟨?_,?_⟩
  ·show kd (F.nodes.filter fun x => !subB p x.1) = kd (G.nodes.filter fun x => !subB p x.1)
   unfold kd
   rw [← filt_map Ent.kind (fun q => !subB p q),← filt_map Ent.kind (fun q => !subB p q)]
   exact congrArg _ h.n
  ·show G.kids.filter _ = G.kids.filter _
   congr 1
   funext x
   rw [h.is]
 ·exact h
theorem Sk.gone {F G:Fld} (h:Sk F G) (p:Nm):Sk (goneF F p) (goneF G p):=by
 have hc:=h.cut p
 refine ⟨?_,?_⟩
 ·show kd (delA p (cutF F p).nodes) = kd (delA p (cutF G p).nodes)
  unfold kd
  rw [← delA_map Ent.kind,← delA_map Ent.kind]
  exact congrArg _ hc.n
 ·show updA _ _ (delA p (cutF F p).kids) = updA _ _ (delA p (cutF G p).kids)
  rw [hc.k]
theorem Sk.put {F G:Fld} (h:Sk F G) {e e':Ent} (hp:e.path = e'.path) (hk:e.kind = e'.kind):Sk (putF F e) (putF G e'):=by
 refine ⟨?_,?_⟩
 ·show kd (updA e.path e F.nodes) = kd (updA e'.path e' G.nodes)
  unfold kd
  rw [← updA_map Ent.kind,← updA_map Ent.kind,hp,hk]
  exact congrArg _ h.n
 ·show updA (aboveP e.path) _ F.kids = updA (aboveP e'.path) _ G.kids
  rw [hp,h.k]
  unfold kidOf
  rw [h.k]
theorem apply_sk {F G:Fld} (h:Sk F G) {e e':Ent} (hp:e.path = e'.path) (hk:e.kind = e'.kind):(applyF F e = none ∧ applyF G e' = none) ∨ ∃ F' G',applyF F e = some F' ∧ applyF G e' = some G' ∧ Sk F' G':=by
 have hF:Sk (if (getA e.path F.nodes).isSome = true then goneF F e.path else F) (if (getA e'.path G.nodes).isSome = true then goneF G e'.path else G):=by
  rw [hp,h.is]
  split
  ·exact h.gone _
  ·exact h
 unfold applyF
 generalize (if (getA e.path F.nodes).isSome = true then goneF F e.path else F) = F1 at *
 generalize (if (getA e'.path G.nodes).isSome = true then goneF G e'.path else G) = G1 at *
 rw [h.kind,h.kind,h.is,hp,hk]
 by_cases h1:aboveP e'.path ≠ [] ∧ ((getA (aboveP e'.path) G.nodes).getD e0).kind ≠ 1
 ·rw [if_pos h1,if_pos h1];exact .inl ⟨rfl,rfl⟩
 rw [if_neg h1,if_neg h1]
 by_cases h2:e'.kind = 4 ∧ (getA e'.path G.nodes).isSome = false
 ·rw [if_pos h2,if_pos h2];exact .inl ⟨rfl,rfl⟩
 rw [if_neg h2,if_neg h2]
 right
 by_cases h3:e'.kind = 1 ∧ ((getA e'.path G.nodes).getD e0).kind = 1
 ·rw [if_pos h3,if_pos h3]
  refine ⟨_,_,rfl,rfl,?_,h.k⟩
  show kd (updA e'.path _ F.nodes) = kd (updA e'.path _ G.nodes)
  unfold kd
  rw [← updA_map Ent.kind,← updA_map Ent.kind]
  show updA e'.path ((getA e'.path F.nodes).getD e0).kind (kd F.nodes) = updA e'.path ((getA e'.path G.nodes).getD e0).kind (kd G.nodes)
  rw [h.kind,h.n]
 rw [if_neg h3,if_neg h3]
 by_cases h4:e'.kind = 4
 ·rw [if_pos h4,if_pos h4]
  exact ⟨_,_,rfl,rfl,hF⟩
 rw [if_neg h4,if_neg h4]
 refine ⟨_,_,rfl,rfl,hF.put ?_ ?_⟩
 ·by_cases h5:e'.kind = 5
  ·rw [if_pos h5,if_pos h5];first | done | exact hp
  ·rw [if_neg h5,if_neg h5];first | done | exact hp
 ·by_cases h5:e'.kind = 5
  ·rw [if_pos h5,if_pos h5]
  ·rw [if_neg h5,if_neg h5];exact hk
end Go.Proofs.YtifhnpkapgaboaaGreat.fld
