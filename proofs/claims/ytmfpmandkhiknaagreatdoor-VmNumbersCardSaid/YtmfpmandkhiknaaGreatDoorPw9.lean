/-
  Proved: floats up to the bits of a NaN: what operations, comparisons, texts make of them (plain). Conditions: as each theorem says. No program is in sight.
  Proved: the model of the machine: values, instructions, what an instruction does, how a machine runs (plain). Conditions: as each theorem says. No program is in sight.
  Proved: that awake says true. Conditions: as each theorem says.
  Proved: FltSums and FltAsks as contracts. Conditions: as each theorem says.
  Proved: what the machine's small functions of values return. Conditions: as each theorem says.
  Proved: what the machine's operators return. Conditions: as each theorem says.
  Proved: what of a machine stays as it runs (plain). Conditions: as each theorem says. No program is in sight.
-/
import Derived.Test.YtmfpmandkhiknaaGreatDoorPw5
import Derived.Test.YtmfpmandkhiknaaGreatDoorPw8
import Derived.BigQuiet
set_option linter.unusedVariables false
set_option linter.unusedSimpArgs false
namespace Go.Proofs.YtmfpmandkhiknaaGreatDoor.vmm
open Go Go.RowKit Ieee
open flt
def cf (r:Nat):Nat:=if nanB r then NANB else r
theorem nan_NANB:nanB NANB = true:=by decide +kernel
theorem nan_cf (r:Nat):nanB (cf r) = nanB r:=by
 unfold cf
 cases h:nanB r with
 | true=>rw [if_pos rfl];exact nan_NANB
 | false=>rw [if_neg (by decide)];exact h
theorem cf_ok {r:Nat} (h:nanB r = false):cf r = r:=by unfold cf;rw [if_neg (by rw [h];decide)]
theorem cf_nan {r:Nat} (h:nanB r = true):cf r = NANB:=by unfold cf;rw [if_pos h]
theorem read_nan {r:Nat} (h:nanB r = true):∃ s f,double.read r = .nan s f:=by
 unfold nanB Datum.isNaN at h
 cases hd:double.read r with
 | number _ _ _=>rw [hd] at h;cases h
 | infinity _=>rw [hd] at h;cases h
 | nan s f=>exact ⟨s,f,rfl⟩
theorem order_nan_l {a b:Nat} (h:nanB a = true):double.order a b = none:=by
 obtain ⟨s,f,hd⟩:=read_nan h
 unfold Format.order
 rw [hd];rfl
theorem order_nan_r {a b:Nat} (h:nanB b = true):double.order a b = none:=by
 obtain ⟨s,f,hd⟩:=read_nan h
 unfold Format.order
 rw [hd]
 cases double.read a <;> rfl
theorem order_cf (a b:Nat):double.order (cf a) (cf b) = double.order a b:=by
 cases ha:nanB a with
 | true=>rw [order_nan_l ha,order_nan_l (by rw [nan_cf];exact ha)]
 | false =>
  rw [cf_ok ha]
  cases hb:nanB b with
  | true=>rw [order_nan_r hb,order_nan_r (by rw [nan_cf];exact hb)]
  | false=>rw [cf_ok hb]
theorem order_cf_l (a b:Nat):double.order (cf a) b = double.order a b:=by
 cases ha:nanB a with
 | true=>rw [order_nan_l ha,order_nan_l (by rw [nan_cf];exact ha)]
 | false=>rw [cf_ok ha]
theorem sum_nan_l (s:Bool) (f:Nat) (d:Datum):(Datum.nan s f).sum d = none:=by cases d <;> rfl
theorem sum_nan_r (s:Bool) (f:Nat) (d:Datum):d.sum (Datum.nan s f) = none:=by cases d <;> rfl
theorem prod_nan_l (s:Bool) (f:Nat) (d:Datum):(Datum.nan s f).product d = none:=by cases d <;> rfl
theorem prod_nan_r (s:Bool) (f:Nat) (d:Datum):d.product (Datum.nan s f) = none:=by cases d <;> rfl
theorem quot_nan_l (k:Nat) (s:Bool) (f:Nat) (d:Datum):(Datum.nan s f).quotient k d = none:=by cases d <;> rfl
theorem quot_nan_r (k:Nat) (s:Bool) (f:Nat) (d:Datum):d.quotient k (Datum.nan s f) = none:=by cases d <;> rfl
theorem fop_nan_l {op:BinOp} {a b:Nat} (h:nanB a = true):fop op a b = none:=by
 obtain ⟨s,f,hd⟩:=read_nan h
 unfold fop floatBits
 cases op <;> try rfl
 ·show ((double.read a).sum (double.read b)).map _ = none
  rw [hd,sum_nan_l];rfl
 ·show ((double.read a).sum (double.read b).opposite).map _ = none
  rw [hd,sum_nan_l];rfl
 ·show ((double.read a).product (double.read b)).map _ = none
  rw [hd,prod_nan_l];rfl
 ·show ((double.read a).quotient _ (double.read b)).map _ = none
  rw [hd,quot_nan_l];rfl
theorem fop_nan_r {op:BinOp} {a b:Nat} (h:nanB b = true):fop op a b = none:=by
 obtain ⟨s,f,hd⟩:=read_nan h
 unfold fop floatBits
 cases op <;> try rfl
 ·show ((double.read a).sum (double.read b)).map _ = none
  rw [hd,sum_nan_r];rfl
 ·show ((double.read a).sum (double.read b).opposite).map _ = none
  rw [hd]
  show ((double.read a).sum (Datum.nan _ f)).map _ = none
  rw [sum_nan_r];rfl
 ·show ((double.read a).product (double.read b)).map _ = none
  rw [hd,prod_nan_r];rfl
 ·show ((double.read a).quotient _ (double.read b)).map _ = none
  rw [hd,quot_nan_r];rfl
theorem fop_cf (op:BinOp) (a b:Nat):fop op (cf a) (cf b) = fop op a b:=by
 cases ha:nanB a with
 | true=>rw [fop_nan_l ha,fop_nan_l (by rw [nan_cf];exact ha)]
 | false =>
  rw [cf_ok ha]
  cases hb:nanB b with
  | true=>rw [fop_nan_r hb,fop_nan_r (by rw [nan_cf];exact hb)]
  | false=>rw [cf_ok hb]
def opC (op:BinOp) (a b:Nat):Nat:=match fop op a b with
 | some z=>cf z
 | none=>NANB
theorem opC_of {op:BinOp} {a b r:Nat} (h:FR (fop op a b) r):cf r = opC op (cf a) (cf b):=by
 unfold opC
 rw [fop_cf]
 cases ho:fop op a b with
 | some z =>
  rw [ho] at h
  rw [h.1 z rfl]
 | none =>
  rw [ho] at h
  exact cf_nan (h.2.1 rfl)
def modC (a b:Nat):Nat:=cf (md a b)
theorem mod_cf {a b:Nat}:cf (md a b) = modC (cf a) (cf b):=by
 unfold modC
 cases ha:nanB a with
 | true =>
  have h1:md a b = NANB:=by unfold md;rw [if_pos (by rw [ha];simp)]
  have h2:md (cf a) (cf b) = NANB:=by unfold md;rw [if_pos (by rw [nan_cf,ha];simp)]
  rw [h1,h2]
 | false =>
  rw [cf_ok ha]
  cases hb:nanB b with
  | true =>
   have h1:md a b = NANB:=by unfold md;rw [if_pos (by rw [hb];simp)]
   have h2:md a (cf b) = NANB:=by unfold md;rw [if_pos (by rw [nan_cf,hb];simp)]
   rw [h1,h2]
  | false=>rw [cf_ok hb]
theorem nan_rung {a:Nat} (h:a < 18446744073709551616):nanB a = decide (9218868437227405312 < rung a):=by
 rcases fin_cases a h with hf | ⟨h1,h2⟩ | ⟨h1,h2⟩
 ·rw [decide_eq_false (by have:=hf.2;omega)]
  unfold nanB
  rw [read_fin a hf]
  rfl
 ·rw [decide_eq_false (by omega)]
  unfold nanB
  rw [h2]
  rfl
 ·rw [h2,decide_eq_true h1]
theorem nan_ng {a:Nat} (h:a < 18446744073709551616):nanB (ng a) = nanB a:=by
 rw [nan_rung h,nan_rung (ng_lt a h)]
 have e:rung (ng a) = rung a:=by
  unfold rung ng
  split <;> omega
 rw [e]
theorem nan_ngN:nanB (ng NANB) = true:=by decide +kernel
theorem cf_ngN:cf (ng NANB) = NANB:=cf_nan nan_ngN
theorem neg_cf {a:Nat} (h:a < 18446744073709551616):cf (ng a) = cf (ng (cf a)):=by
 cases ha:nanB a with
 | true =>
  have h1:cf (ng a) = NANB:=cf_nan (by rw [nan_ng h];exact ha)
  have h2:cf a = NANB:=cf_nan ha
  exact h1.trans (cf_ngN.symm.trans (congrArg (fun x=>cf (ng x)) h2.symm))
 | false=>rw [cf_ok ha]
theorem true_cf (a:Nat):trueB (cf a) = trueB a:=by unfold trueB;rw [order_cf_l,nan_cf]
theorem txt_cf (a:Nat):txt (cf a) = txt a:=by
 cases ha:nanB a with
 | true =>
  have h1:∀ x,nanB x = true → txt x = ⟨#[110,97,110]⟩:=fun x hx=>by unfold txt;rw [if_pos hx]
  rw [h1 a ha,h1 (cf a) (by rw [nan_cf];exact ha)]
 | false=>rw [cf_ok ha]
theorem isW_cf (a:Nat):isW (cf a) = isW a:=by
 cases ha:nanB a with
 | true =>
  have h1:∀ x,nanB x = true → isW x = false:=fun x hx=>by unfold isW eqB;rw [order_nan_l hx];simp
  rw [h1 a ha,h1 (cf a) (by rw [nan_cf];exact ha)]
 | false=>rw [cf_ok ha]
theorem wholeN_cf (a:Nat):wholeN (cf a) = wholeN a:=by
 cases ha:nanB a with
 | true =>
  have h1:∀ x,nanB x = true → isW x = false:=fun x hx=>by unfold isW eqB;rw [order_nan_l hx];simp
  unfold wholeN
  rw [h1 a ha,h1 (cf a) (by rw [nan_cf];exact ha)]
  rfl
 | false=>rw [cf_ok ha]
structure Val where
 isT:Bool
 text:List UInt8
 num:Nat
deriving DecidableEq
structure Ins where
 op:Int
 arg:Int
 num:Nat
 text:List UInt8
deriving DecidableEq
structure Cal where
 op:Int
 path:List UInt8
 path2:List UInt8
 fd:Int
 off:Int
 num:Int
 mode:Int
 data:List UInt8
deriving DecidableEq
def noCal:Cal:=⟨0,[],[],0,0,0,0,[]⟩
structure Mac where
 code:List Ins
 pc:Int
 fuel:Int
 ran:Int
 stack:List Val
 vars:List Val
 state:Int
 call:Cal
 asked:List UInt8
 errno:Int
 text:List UInt8
abbrev Bad:=Int × List UInt8
def numV (x:Nat):Val:=⟨false,[],x⟩
def textV (t:List UInt8):Val:=⟨true,t,0⟩
def flagV (b:Bool):Val:=numV (if b then 4607182418800017408 else 0)
def zeroV:Val:=numV 0
def shown (v:Val):List UInt8:=if v.isT then v.text else (txt v.num).data.toList
def truth (v:Val):Bool:=if v.isT then v.text != [] else trueB v.num
def pushM (m:Mac) (v:Val):Except Bad Mac:=if 1024 < v.text.length then .error (2203,[]) else if 64 ≤ m.stack.length then .error (2202,[]) else .ok { m with stack:=m.stack ++ [v] }
def popM (m:Mac) (n:Nat):Except Bad (List Val × Mac):=if m.stack.length < n then .error (2202,[]) else .ok (m.stack.drop (m.stack.length - n),{ m with stack:=m.stack.take (m.stack.length - n) })
def binaryM (op:Int) (a b:Val):Except Bad Val:=
 if op = 12 then .ok (textV (shown a ++ shown b))
 else if op = 13 then .ok (if a.isT != b.isT then flagV false else flagV ((a.isT && a.text == b.text) || (!a.isT && eqB a.num b.num)))
 else if op = 14 then (if a.isT != b.isT then .error (2201,[]) else .ok (flagV ((a.isT && Op.bytesLess a.text b.text) || (!a.isT && double.order a.num b.num == some .lt))))
 else if a.isT || b.isT then .error (2201,[])
 else .ok (numV (if op = 7 then opC .add a.num b.num else if op = 8 then opC .sub a.num b.num else if op = 9 then opC .mul a.num b.num else if op = 10 then opC .quo a.num b.num else modC a.num b.num))
def nNum:List UInt8 := [110,117,109]
def nText:List UInt8 := [116,101,120,116]
def nLen:List UInt8 := [108,101,110]
def nWhole:List UInt8 := [119,104,111,108,101]
def isPure (g:List UInt8):Bool:=g == nNum || g == nText || g == nLen || g == nWhole
def pureM (g:List UInt8) (v:Val):Except Bad Val:=
 if g = nNum then (if v.isT then .ok (numV (cf ((ofT v.text).getD NANB))) else .ok v)
 else if g = nText then .ok (textV (shown v))
 else if g = nLen then (if v.isT then .ok (numV (floatOfInt .f64 v.text.length)) else .error (2201,[]))
 else .ok (flagV (!v.isT && isW v.num))
def formL:List (List UInt8 × Int × List UInt8) := [([114,101,97,100],2,[80,111,110]),([108,105,115,116],3,[80]),([115,116,97,116],1,[80]),([114,101,97,100,108,105,110,107],4,[80]),([99,114,101,97,116,101],5,[80,109]),([109,107,100,105,114],6,[80,109]),([115,121,109,108,105,110,107],7,[80,68]),([119,114,105,116,101],8,[80,111,68]),([116,114,117,110,99,97,116,101],9,[80,110]),([99,104,109,111,100],10,[80,109]),([114,101,109,111,118,101],11,[80]),([114,109,100,105,114],12,[80]),([114,101,110,97,109,101],13,[80,81]),([111,112,101,110],14,[80]),([114,101,97,100,102,100],15,[102,111,110]),([119,114,105,116,101,102,100],16,[102,111,68]),([99,108,111,115,101],17,[102])]
def formM (g:List UInt8):Int × List UInt8:=match formL.find? (fun x=>x.1 == g) with
 | some x=>x.2
 | none=>(18,[80])
def putArg (c:Cal) (r:UInt8) (v:Val):Cal:=
 if r = 80 then { c with path:=v.text } else if r = 81 then { c with path2:=v.text } else if r = 68 then { c with data:=v.text }
 else if r = 111 then { c with off:=wholeN v.num } else if r = 110 then { c with num:=wholeN v.num } else if r = 109 then { c with mode:=wholeN v.num } else if r = 102 then { c with fd:=wholeN v.num } else c
def isTextArg (r:UInt8):Bool:=r == 80 || r == 81 || r == 68
def argsM (c:Cal):List Val → List UInt8 → Except Bad Cal
 | [],_=>.ok c
 | v :: vs,rs=>if (v.isT != isTextArg (rs.headD 0)) || (!isTextArg (rs.headD 0) && !isW v.num) then .error (2201,[]) else argsM (putArg c (rs.headD 0) v) vs rs.tail
def askM (m:Mac) (g:List UInt8) (vs:List Val):Except Bad Mac:=
 if isPure g then (match pureM g (vs.headD zeroV) with
  | .error e=>.error e
  | .ok v=>pushM m v)
 else match argsM { noCal with op:=(formM g).1 } vs (formM g).2 with
  | .error e=>.error e
  | .ok c=>.ok { m with call:=c,asked:=g,state:=1 }
def doM (m:Mac) (i:Ins):Except Bad Mac:=
 if i.op = 0 then .ok { m with state:=2 }
 else if i.op = 1 then pushM m (numV i.num)
 else if i.op = 2 then pushM m (textV i.text)
 else if i.op = 3 then pushM m (m.vars.getD i.arg.toNat zeroV)
 else if i.op = 4 then (match popM m 1 with
  | .error e=>.error e
  | .ok (vs,m)=>.ok { m with vars:=m.vars.set i.arg.toNat (vs.headD zeroV) })
 else if i.op = 18 then (match popM m 1 with
  | .error e=>.error e
  | .ok (_,m)=>.ok m)
 else if i.op = 15 then .ok { m with pc:=i.arg }
 else if i.op = 16 then (match popM m 1 with
  | .error e=>.error e
  | .ok (vs,m)=>.ok (if truth (vs.headD zeroV) then m else { m with pc:=i.arg }))
 else if i.op = 5 then (match popM m 1 with
  | .error e=>.error e
  | .ok (vs,m)=>if (vs.headD zeroV).isT then .error (2201,[]) else pushM m (numV (cf (ng (vs.headD zeroV).num))))
 else if i.op = 6 then (match popM m 1 with
  | .error e=>.error e
  | .ok (vs,m)=>pushM m (flagV (!truth (vs.headD zeroV))))
 else if i.op = 17 then (match popM m i.arg.toNat with
  | .error e=>.error e
  | .ok (vs,m)=>askM m i.text vs)
 else if i.op = 19 then (match popM m 1 with
  | .error e=>.error e
  | .ok (vs,_)=>.error (2205,shown (vs.headD zeroV)))
 else match popM m 2 with
  | .error e=>.error e
  | .ok (vs,m)=>(match binaryM i.op (vs.headD zeroV) (vs.getD 1 zeroV) with
   | .error e=>.error e
   | .ok v=>pushM m v)
def failM (m:Mac) (e:Bad):Mac:={ m with state:=3,errno:=e.1,text:=e.2 }
def roundM (m:Mac):Mac:=
 if (m.code.length:Int) ≤ m.pc then { m with state:=2 }
 else if m.fuel = 0 then failM m (2204,[])
 else match doM { m with fuel:=m.fuel - 1,ran:=m.ran + 1,pc:=m.pc + 1 } (m.code.getD m.pc.toNat ⟨0,0,0,[]⟩) with
  | .ok m2=>m2
  | .error e=>failM { m with fuel:=m.fuel - 1,ran:=m.ran + 1,pc:=m.pc + 1 } e
def runM:Nat → Mac → Mac
 | 0,m=>m
 | n + 1,m=>if m.state = 0 then runM n (roundM m) else m
def argN (g:List UInt8):Option Int:=(([114,101,97,100],(3:Int)) :: ([108,105,115,116],1) :: ([115,116,97,116],1) :: ([114,101,97,100,108,105,110,107],1) :: ([99,114,101,97,116,101],2) :: ([109,107,100,105,114],2) :: ([115,121,109,108,105,110,107],2) :: ([119,114,105,116,101],3) :: ([116,114,117,110,99,97,116,101],2) :: ([99,104,109,111,100],2) :: ([114,101,109,111,118,101],1) :: ([114,109,100,105,114],1) :: ([114,101,110,97,109,101],2) :: ([111,112,101,110],1) :: ([114,101,97,100,102,100],3) :: ([119,114,105,116,101,102,100],3) :: ([99,108,111,115,101],1) :: ([99,104,100,105,114],1) :: (nNum,1) :: (nText,1) :: (nLen,1) :: (nWhole,1) :: ([]:List (List UInt8 × Int))).lookup g
def fairM (i:Ins) (many:Nat):Bool:=
 if i.op = 3 ∨ i.op = 4 then decide (0 ≤ i.arg) && decide (i.arg < 64)
 else if i.op = 15 ∨ i.op = 16 then decide (0 ≤ i.arg) && decide (i.arg ≤ many)
 else if i.op = 17 then (match argN i.text with
  | some k=>k == i.arg
  | none=>false)
 else decide (0 ≤ i.op) && decide (i.op ≤ 19)
def newM (code:List Ins) (fuel:Int):Mac:=⟨code,0,fuel,0,[],List.replicate 64 zeroV,0,noCal,[],0,[]⟩
end Go.Proofs.YtmfpmandkhiknaaGreatDoor.vmm
namespace Go.Proofs.YtmfpmandkhiknaaGreatDoor.flt
open Go.RowKit Ieee
set_option maxRecDepth 100000
theorem Num_any (n:Int) (w:World):Calls Tryz.prog 14 #[.int .i64 n] w fun e w'=>e = .returned (.int .i64 n) ∧ w = w':=by
 go_enter Tryz.func14,Tryz.ntmps14
 go_wp2
 go_ret
 exact ⟨rfl,rfl⟩
attribute [local go_sem] run_bits run_frombits
end Go.Proofs.YtmfpmandkhiknaaGreatDoor.flt
namespace Go.Proofs.YtmfpmandkhiknaaGreatDoor.flt
open Go.RowKit Ieee
set_option maxRecDepth 100000
attribute [local go_sem] fmt64 run_bits run_frombits run_add run_sub run_mul run_quo
end Go.Proofs.YtmfpmandkhiknaaGreatDoor.flt
namespace Go.Proofs.YtmfpmandkhiknaaGreatDoor.vmm
open Go Go.RowKit
open flt heap
open lex (run_store_float)
set_option maxRecDepth 100000
attribute [local go_sem] run_store_float
def NumOk (c:Val) (r:Nat):Prop:=cf r = c.num ∧ r < 18446744073709551616
abbrev vV (b:Bool) (t:List UInt8) (r:Nat):Value:=.agg #[.bool b,.string ⟨t.toArray⟩,.float .f64 r]
abbrev vO (b:Bool) (t:List UInt8) (r:Nat):Obj:=.cells #[.bool b,.string ⟨t.toArray⟩,.float .f64 r] 47 (0,0)
abbrev badV (c:Int) (t:List UInt8):Value:=.iface 113 (.agg #[.int .i64 c,.string ⟨t.toArray⟩])
theorem fail_no (c:Int) (w:World):Calls Tryz.prog 60 #[.bool false,.int .i64 c] w fun e w'=>e = .returned (.tuple #[]) ∧ w = w':=by
 go_enter Tryz.func60,Tryz.ntmps60
 go_wp2_with fail
 go_end0
 exact ⟨rfl,rfl⟩
theorem fail_yes (c:Int) (w:World):Calls Tryz.prog 60 #[.bool true,.int .i64 c] w fun e w'=>e = .panicked [{ v:=badV c [],recovered:=false }] ∧ w = w':=by
 go_enter Tryz.func60,Tryz.ntmps60
 go_wp2_with fail
 exact ⟨rfl,rfl,rfl⟩
theorem number_any (r:Nat) (w:World):Calls Tryz.prog 40 #[.float .f64 r] w fun e w'=>e = .returned (vV false [] r) ∧ Below w.heap.size w w':=by
 go_enter Tryz.func40,Tryz.ntmps40
 go_wp2_with fail
 have hb:=(Below.refl w.heap.size w).alloc (Nat.le_refl _) (vO false [] r)
 have hn:=blk_new w (vO false [] r)
 have c0:=blk_cell hn 0
 have c1:=blk_cell hn 1
 have c2:=blk_cell hn 2
 simp only [List.getElem?_toArray,List.getElem?_cons_zero,List.getElem?_cons_succ] at c0 c1 c2
 exact bodyPost_ret (v:=vV false [] r) (by simp [results,Tryz.results40,go_sem,c0,c1,c2]) rfl ⟨rfl,hb⟩
theorem flag_any (b:Bool) (w:World):Calls Tryz.prog 89 #[.bool b] w fun e w'=>e = .returned (vV false [] (if b then 4607182418800017408 else 0)) ∧ Below w.heap.size w w':=by
 have HN:=Lib.hid (fun r W=>number_any r W)
 cases b with
 | true =>
  go_enter Tryz.func89,Tryz.ntmps89
  go_upto_region 1 with fail
  have hn:=blk_new w (vO false [] 0)
  have HB:Hid (Below w.heap.size w (w.alloc (vO false [] 0))):=(Below.refl _ _).alloc (Nat.le_refl _) _
  change Code.wp _ _ _ _ (w.alloc (vO false [] 0))
  generalize w.alloc (vO false [] 0) = w1 at *
  have HN1:=Lib.hid hn
  clear hn
  go_wp2_with fail
  refine (HN.out _ _).mono ?_;rintro e w2 ⟨rfl,hb⟩
  have hq:=blk_below HN1.out hb
  have HB2:=Lib.hid (HB.out.trans (hb.mono HB.out.size))
  have HQ:=Lib.hid hq
  have y0:=blk_cell (hq) 0
  have y1:=blk_cell (hq) 1
  have y2:=blk_cell (hq) 2
  have yf0:=blk_free (hq) 0
  have yf1:=blk_free (hq) 1
  have yf2:=blk_free (hq) 2
  have yl:=blk_lt (hq)
  simp only [List.getElem?_toArray,List.getElem?_cons_zero,List.getElem?_cons_succ] at y0 y1 y2
  clear hb hq
  go_wp2_with fail
  have h3:(((w2.setCell ⟨w.heap.size,0,none⟩ (.bool false)).setCell ⟨w.heap.size,1,none⟩ (.string ⟨#[]⟩)).setCell ⟨w.heap.size,2,none⟩ (.float .f64 4607182418800017408)).heap[w.heap.size]? = some (vO false [] 4607182418800017408):=blk_set (blk_set (blk_set HQ.out 0 _) 1 _) 2 _
  have hb3:Below w.heap.size w (((w2.setCell ⟨w.heap.size,0,none⟩ (.bool false)).setCell ⟨w.heap.size,1,none⟩ (.string ⟨#[]⟩)).setCell ⟨w.heap.size,2,none⟩ (.float .f64 4607182418800017408)):=((HB2.out.setCell (by simp) _).setCell (by simp) _).setCell (by simp) _
  generalize (((w2.setCell _ _).setCell _ _).setCell _ _) = w3 at h3 hb3 ⊢
  clear y0 y1 y2 yf0 yf1 yf2 yl
  have z0:=blk_cell (h3) 0
  have z1:=blk_cell (h3) 1
  have z2:=blk_cell (h3) 2
  have zf0:=blk_free (h3) 0
  have zf1:=blk_free (h3) 1
  have zf2:=blk_free (h3) 2
  have zl:=blk_lt (h3)
  simp only [List.getElem?_toArray,List.getElem?_cons_zero,List.getElem?_cons_succ] at z0 z1 z2
  exact bodyPost_ret (v:=vV false [] 4607182418800017408) (by simp [results,Tryz.results89,go_sem,z0,z1,z2]) rfl ⟨rfl,hb3⟩
 | false =>
  go_enter Tryz.func89,Tryz.ntmps89
  go_upto_region 1 with fail
  have hn:=blk_new w (vO false [] 0)
  have HB:Hid (Below w.heap.size w (w.alloc (vO false [] 0))):=(Below.refl _ _).alloc (Nat.le_refl _) _
  change Code.wp _ _ _ _ (w.alloc (vO false [] 0))
  generalize w.alloc (vO false [] 0) = w1 at *
  have HN1:=Lib.hid hn
  clear hn
  go_wp2_with fail
  refine (HN.out _ _).mono ?_;rintro e w2 ⟨rfl,hb⟩
  have hq:=blk_below HN1.out hb
  have HB2:=Lib.hid (HB.out.trans (hb.mono HB.out.size))
  have HQ:=Lib.hid hq
  have y0:=blk_cell (hq) 0
  have y1:=blk_cell (hq) 1
  have y2:=blk_cell (hq) 2
  have yf0:=blk_free (hq) 0
  have yf1:=blk_free (hq) 1
  have yf2:=blk_free (hq) 2
  have yl:=blk_lt (hq)
  simp only [List.getElem?_toArray,List.getElem?_cons_zero,List.getElem?_cons_succ] at y0 y1 y2
  clear hb hq
  go_wp2_with fail
  have h3:(((w2.setCell ⟨w.heap.size,0,none⟩ (.bool false)).setCell ⟨w.heap.size,1,none⟩ (.string ⟨#[]⟩)).setCell ⟨w.heap.size,2,none⟩ (.float .f64 0)).heap[w.heap.size]? = some (vO false [] 0):=blk_set (blk_set (blk_set HQ.out 0 _) 1 _) 2 _
  have hb3:Below w.heap.size w (((w2.setCell ⟨w.heap.size,0,none⟩ (.bool false)).setCell ⟨w.heap.size,1,none⟩ (.string ⟨#[]⟩)).setCell ⟨w.heap.size,2,none⟩ (.float .f64 0)):=((HB2.out.setCell (by simp) _).setCell (by simp) _).setCell (by simp) _
  generalize (((w2.setCell _ _).setCell _ _).setCell _ _) = w3 at h3 hb3 ⊢
  clear y0 y1 y2 yf0 yf1 yf2 yl
  have z0:=blk_cell (h3) 0
  have z1:=blk_cell (h3) 1
  have z2:=blk_cell (h3) 2
  have zf0:=blk_free (h3) 0
  have zf1:=blk_free (h3) 1
  have zf2:=blk_free (h3) 2
  have zl:=blk_lt (h3)
  simp only [List.getElem?_toArray,List.getElem?_cons_zero,List.getElem?_cons_succ] at z0 z1 z2
  exact bodyPost_ret (v:=vV false [] 0) (by simp [results,Tryz.results89,go_sem,z0,z1,z2]) rfl ⟨rfl,hb3⟩
theorem shown_any (c:Val) (r:Nat) (w:World) (h:NumOk c r):Calls Tryz.prog 91 #[vV c.isT c.text r] w fun e w'=>e = .returned (.string ⟨(shown c).toArray⟩) ∧ Below w.heap.size w w':=by
 obtain ⟨b,t,x⟩:=c
 obtain ⟨h1,h2⟩:=h
 simp only at h1
 have HT:=Lib.hid (fun W=>Text_any r W h2)
 have HB:Hid (Below w.heap.size w (w.alloc (vO b t r))):=(Below.refl _ _).alloc (Nat.le_refl _) _
 have hn:=blk_new w (vO b t r)
 cases b with
 | true =>
  have e:shown ⟨true,t,x⟩ = t:=rfl
  rw [e]
  go_enter Tryz.func91,Tryz.ntmps91
  go_wp2_with fail
  go_ret
  exact ⟨rfl,HB.out⟩
 | false =>
  have e:(⟨(shown ⟨false,t,x⟩).toArray⟩:ByteArray) = txt r:=by
   have:shown ⟨false,t,x⟩ = (txt x).data.toList:=rfl
   rw [this,← h1,txt_cf]
  rw [e]
  go_enter Tryz.func91,Tryz.ntmps91
  go_wp2_with fail
  refine (HT.out _).mono ?_;rintro e w2 ⟨rfl,hb⟩
  go_wp2_with fail
  go_ret
  exact ⟨rfl,HB.out.trans (hb.mono HB.out.size)⟩
theorem truth_any (c:Val) (r:Nat) (w:World) (h:NumOk c r):Calls Tryz.prog 86 #[vV c.isT c.text r] w fun e w'=>e = .returned (.bool (truth c)) ∧ Below w.heap.size w w':=by
 obtain ⟨b,t,x⟩:=c
 obtain ⟨h1,h2⟩:=h
 simp only at h1
 have HT:=Lib.hid (fun W=>True_any r W)
 have HB:Hid (Below w.heap.size w (w.alloc (vO b t r))):=(Below.refl _ _).alloc (Nat.le_refl _) _
 cases b with
 | true =>
  have e:truth ⟨true,t,x⟩ = !t.isEmpty:=by cases t <;> rfl
  rw [e]
  go_enter Tryz.func86,Tryz.ntmps86
  go_wp2_with fail
  go_ret
  exact ⟨rfl,HB.out⟩
 | false =>
  have e:truth ⟨false,t,x⟩ = trueB r:=by
   have:truth ⟨false,t,x⟩ = trueB x:=rfl
   rw [this,← h1,true_cf]
  rw [e]
  go_enter Tryz.func86,Tryz.ntmps86
  go_wp2_with fail
  refine (HT.out _).mono ?_;rintro e w2 ⟨rfl,rfl⟩
  go_wp2_with fail
  go_ret
  exact ⟨rfl,HB.out⟩
end Go.Proofs.YtmfpmandkhiknaaGreatDoor.vmm
namespace Go.Proofs.YtmfpmandkhiknaaGreatDoor.vmm
open Go Go.RowKit Ieee
open flt heap
open lex (run_store_float)
set_option maxRecDepth 100000
attribute [local go_sem] run_store_float
def ValP (x:Except Bad Val) (w:World) (e:Ending) (w':World):Prop:=Below w.heap.size w w' ∧ match x with
 | .ok c=>∃ r,e = .returned (vV c.isT c.text r) ∧ NumOk c r
 | .error y=>e = .panicked [{ v:=badV y.1 y.2,recovered:=false }]
theorem ValP.ok {c:Val} {w w':World} {r:Nat} (hb:Below w.heap.size w w') (h:NumOk c r):ValP (.ok c) w (.returned (vV c.isT c.text r)) w':=⟨hb,r,rfl,h⟩
theorem ValP.err {y:Bad} {w w':World} (hb:Below w.heap.size w w'):ValP (.error y) w (.panicked [{ v:=badV y.1 y.2,recovered:=false }]) w':=⟨hb,rfl⟩
def arF (op:Int):FuncId:=if op = 7 then 162 else if op = 8 then 163 else if op = 9 then 164 else if op = 10 then 165 else 166
theorem arith_any (op:Int) (w:World):Calls Tryz.prog 123 #[.int .i64 op] w fun e w'=>e = .returned (.func (.func (arF op)) #[] #[]) ∧ w = w':=by
 by_cases h7:op = 7
 ·subst h7
  go_enter Tryz.func123,Tryz.ntmps123
  go_wp2_with fail
  go_ret
  exact ⟨rfl,rfl⟩
 ·by_cases h8:op = 8
  ·subst h8
   go_enter Tryz.func123,Tryz.ntmps123
   go_wp2_with fail
   go_ret
   exact ⟨rfl,rfl⟩
  ·by_cases h9:op = 9
   ·subst h9
    go_enter Tryz.func123,Tryz.ntmps123
    go_wp2_with fail
    go_ret
    exact ⟨rfl,rfl⟩
   ·by_cases h10:op = 10
    ·subst h10
     go_enter Tryz.func123,Tryz.ntmps123
     go_wp2_with fail
     go_ret
     exact ⟨rfl,rfl⟩
    ·have e:arF op = 166:=by unfold arF;rw [if_neg h7,if_neg h8,if_neg h9,if_neg h10]
     rw [e]
     have b7:(op == 7) = false:=beq_eq_false_iff_ne.2 h7
     have b8:(op == 8) = false:=beq_eq_false_iff_ne.2 h8
     have b9:(op == 9) = false:=beq_eq_false_iff_ne.2 h9
     have b10:(op == 10) = false:=beq_eq_false_iff_ne.2 h10
     go_enter Tryz.func123,Tryz.ntmps123
     go_wp2_with fail
     go_ret
     exact ⟨rfl,rfl⟩
structure BJ (w:World) (a b:Val) (ra rb:Nat) (wr:World):Prop where
 x:wr.heap[w.heap.size]? = some (vO a.isT a.text ra)
 y:wr.heap[w.heap.size + 1]? = some (vO b.isT b.text rb)
 z:wr.heap[w.heap.size + 1 + 1]? = some (vO false [] 0)
 bel:Below w.heap.size w wr
theorem BJ.start (w:World) (a b:Val) (ra rb:Nat):BJ w a b ra rb (((w.alloc (vO a.isT a.text ra)).alloc (vO b.isT b.text rb)).alloc (vO false [] 0)):=by
 have h1:=blk_new w (vO a.isT a.text ra)
 have h2:=blk_new (w.alloc (vO a.isT a.text ra)) (vO b.isT b.text rb)
 have h3:=blk_new ((w.alloc (vO a.isT a.text ra)).alloc (vO b.isT b.text rb)) (vO false [] 0)
 rw [show (w.alloc (vO a.isT a.text ra)).heap.size = w.heap.size + 1 by simp] at h2
 rw [show ((w.alloc (vO a.isT a.text ra)).alloc (vO b.isT b.text rb)).heap.size = w.heap.size + 1 + 1 by simp] at h3
 exact ⟨blk_old (blk_old h1 _) _,blk_old h2 _,h3,(((Below.refl _ _).alloc (Nat.le_refl _) _).alloc (by simp) _).alloc (by simp;omega) _⟩
theorem BJ.below {w wr w':World} {a b:Val} {ra rb:Nat} (h:BJ w a b ra rb wr) (hb:Below wr.heap.size wr w'):BJ w a b ra rb w':=⟨blk_below h.x hb,blk_below h.y hb,blk_below h.z hb,h.bel.trans (hb.mono h.bel.size)⟩
theorem BJ.drew {w wr:World} {a b:Val} {ra rb:Nat} (h:BJ w a b ra rb wr):BJ w a b ra rb wr.drew:=⟨h.x,h.y,h.z,h.bel.drew⟩
theorem num0 {t:List UInt8}:NumOk (textV t) 0:=⟨cf_ok (by decide +kernel),by omega⟩
theorem numF (b:Bool):NumOk (flagV b) (if b then 4607182418800017408 else 0):=by
 cases b
 ·exact ⟨cf_ok (by decide +kernel),by decide⟩
 ·exact ⟨cf_ok (by decide +kernel),by decide⟩
theorem c3_of {w:World} {b:Nat} {u0 u1 u2:Value} {t:TypeId} (h:w.heap[b]? = some (.cells #[u0,u1,u2] t (0,0))):w.cell? ⟨b,0,none⟩ = some u0 ∧ w.cell? ⟨b,1,none⟩ = some u1 ∧ w.cell? ⟨b,2,none⟩ = some u2 ∧ w.frozen? ⟨b,0,none⟩ = false ∧ w.frozen? ⟨b,1,none⟩ = false ∧ w.frozen? ⟨b,2,none⟩ = false ∧ b < w.heap.size:=
 ⟨by rw [blk_cell h];rfl,by rw [blk_cell h];rfl,by rw [blk_cell h];rfl,blk_free h 0,blk_free h 1,blk_free h 2,blk_lt h⟩
set_option maxHeartbeats 4000000 in
theorem bin_join (a b:Val) (ra rb:Nat) (w:World) (ha:NumOk a ra) (hb:NumOk b rb) (hla:(shown a).length ≤ 100000) (hlb:(shown b).length ≤ 100000) :
  Calls Tryz.prog 92 #[.int .i64 12,vV a.isT a.text ra,vV b.isT b.text rb] w (ValP (binaryM 12 a b) w):=by
 have e:binaryM 12 a b = .ok (textV (shown a ++ shown b)):=rfl
 rw [e]
 have HA:=Lib.hid (fun W=>shown_any a ra W ha)
 have HB:=Lib.hid (fun W=>shown_any b rb W hb)
 generalize shown a = ta at *
 generalize shown b = tb at *
 go_enter Tryz.func92,Tryz.ntmps92
 go_upto_region 1 with fail
 have HJ:=Lib.hid (BJ.start w a b ra rb)
 change Code.wp _ _ _ _ (((w.alloc (vO a.isT a.text ra)).alloc (vO b.isT b.text rb)).alloc (vO false [] 0))
 generalize ((w.alloc (vO a.isT a.text ra)).alloc (vO b.isT b.text rb)).alloc (vO false [] 0) = wr at *
 have x0:=blk_cell (HJ.out.x) 0
 have x1:=blk_cell (HJ.out.x) 1
 have x2:=blk_cell (HJ.out.x) 2
 have xf0:=blk_free (HJ.out.x) 0
 have xf1:=blk_free (HJ.out.x) 1
 have xf2:=blk_free (HJ.out.x) 2
 have xl:=blk_lt (HJ.out.x)
 simp only [List.getElem?_toArray,List.getElem?_cons_zero,List.getElem?_cons_succ] at x0 x1 x2
 have y0:=blk_cell (HJ.out.y) 0
 have y1:=blk_cell (HJ.out.y) 1
 have y2:=blk_cell (HJ.out.y) 2
 have yf0:=blk_free (HJ.out.y) 0
 have yf1:=blk_free (HJ.out.y) 1
 have yf2:=blk_free (HJ.out.y) 2
 have yl:=blk_lt (HJ.out.y)
 simp only [List.getElem?_toArray,List.getElem?_cons_zero,List.getElem?_cons_succ] at y0 y1 y2
 have k0:=blk_cell (HJ.out.z) 0
 have k1:=blk_cell (HJ.out.z) 1
 have k2:=blk_cell (HJ.out.z) 2
 have kf0:=blk_free (HJ.out.z) 0
 have kf1:=blk_free (HJ.out.z) 1
 have kf2:=blk_free (HJ.out.z) 2
 have kl:=blk_lt (HJ.out.z)
 simp only [List.getElem?_toArray,List.getElem?_cons_zero,List.getElem?_cons_succ] at k0 k1 k2
 have happ:(⟨ta.toArray⟩:ByteArray) ++ ⟨tb.toArray⟩ = ⟨(ta ++ tb).toArray⟩:=by
  apply ByteArray.ext
  simp
 have hsum:¬ 9223372036854775807 < ta.length + tb.length:=by omega
 go_upto_region 3 with fail
 go_region_law
  (go_simp
   go_at_call 91
   first
     | ((with_reducible refine (HA.out _).mono ?_)
        rintro e w5 ⟨rfl,hb5⟩
        have HJ5:=Lib.hid (HJ.out.drew.below hb5)
        clear hb5
        obtain ⟨yy0,yy1,yy2,yyf0,yyf1,yyf2,yyl⟩:=c3_of HJ5.out.y)
     | ((with_reducible refine (HB.out _).mono ?_)
        rintro e w6 ⟨rfl,hb6⟩
        have HJ6:=Lib.hid (HJ5.out.below hb6)
        clear hb6
        obtain ⟨zz0,zz1,zz2,zzf0,zzf1,zzf2,zzl⟩:=c3_of HJ6.out.z))
 all_goals
  have h3:((((w6).setCell ⟨w.heap.size + 1 + 1,0,none⟩ (.bool true)).setCell ⟨w.heap.size + 1 + 1,1,none⟩ (.string ⟨(ta ++ tb).toArray⟩)).setCell ⟨w.heap.size + 1 + 1,2,none⟩ (.float .f64 0)).heap[w.heap.size + 1 + 1]? = some (.cells #[.bool true,.string ⟨(ta ++ tb).toArray⟩,.float .f64 0] 47 (0,0)):=blk_set (blk_set (blk_set HJ6.out.z 0 _) 1 _) 2 _
  have hb3:Below w.heap.size w ((((w6).setCell ⟨w.heap.size + 1 + 1,0,none⟩ (.bool true)).setCell ⟨w.heap.size + 1 + 1,1,none⟩ (.string ⟨(ta ++ tb).toArray⟩)).setCell ⟨w.heap.size + 1 + 1,2,none⟩ (.float .f64 0)):=((HJ6.out.bel.setCell (by simp <;> omega) _).setCell (by simp <;> omega) _).setCell (by simp <;> omega) _
  generalize ((((w6).setCell _ _).setCell _ _).setCell _ _) = w3 at h3 hb3 ⊢
  clear zz0 zz1 zz2 zzf0 zzf1 zzf2 zzl yy0 yy1 yy2 yyf0 yyf1 yyf2 yyl
  go_wp2_with fail
  have z0:=blk_cell (h3) 0
  have z1:=blk_cell (h3) 1
  have z2:=blk_cell (h3) 2
  have zf0:=blk_free (h3) 0
  have zf1:=blk_free (h3) 1
  have zf2:=blk_free (h3) 2
  have zl:=blk_lt (h3)
  simp only [List.getElem?_toArray,List.getElem?_cons_zero,List.getElem?_cons_succ] at z0 z1 z2
  refine bodyPost_ret (v:=.agg #[.bool true,.string ⟨(ta ++ tb).toArray⟩,.float .f64 0]) (by simp [results,Tryz.results92,go_sem,z0,z1,z2]) rfl ?_
  exact ValP.ok (c:=textV (ta ++ tb)) hb3 num0
set_option maxHeartbeats 4000000 in
theorem bin_eq (a b:Val) (ra rb:Nat) (w:World) (ha:NumOk a ra) (hb:NumOk b rb) :
  Calls Tryz.prog 92 #[.int .i64 13,vV a.isT a.text ra,vV b.isT b.text rb] w (ValP (binaryM 13 a b) w):=by
 obtain ⟨ia,ta,na⟩:=a
 obtain ⟨ib,tb,nb⟩:=b
 have HE:Hid (∀ W,Calls Tryz.prog 121 #[fv ra,fv rb] W fun e w'=>e = .returned (.bool (eqB na nb)) ∧ W = w'):=fun W=>by
  have h:=Equal_any ra rb W
  have e:(double.order ra rb == some .eq) = eqB na nb:=by
   have h1:cf ra = na:=ha.1
   have h2:cf rb = nb:=hb.1
   unfold eqB
   rw [← h1,← h2,order_cf]
  rw [e] at h
  exact h
 clear ha hb
 simp only
 cases ia <;> cases ib
 ·have e:binaryM 13 ⟨false,ta,na⟩ ⟨false,tb,nb⟩ = .ok (flagV (eqB na nb)):=rfl
  rw [e]
  generalize eqB na nb = q at *
  have HNQ:=Lib.hid (numF q)
  have HFQ:=Lib.hid (fun W=>flag_any q W)
  generalize (if q = true then 4607182418800017408 else 0) = rq at *
  go_enter Tryz.func92,Tryz.ntmps92
  go_upto_region 1 with fail
  have HJ:=Lib.hid (BJ.start w ⟨false,ta,na⟩ ⟨false,tb,nb⟩ ra rb)
  change Code.wp _ _ _ _ (((w.alloc (vO false ta ra)).alloc (vO false tb rb)).alloc (vO false [] 0))
  generalize ((w.alloc (vO false ta ra)).alloc (vO false tb rb)).alloc (vO false [] 0) = wr at *
  have x0:=blk_cell (HJ.out.x) 0
  have x1:=blk_cell (HJ.out.x) 1
  have x2:=blk_cell (HJ.out.x) 2
  have xf0:=blk_free (HJ.out.x) 0
  have xf1:=blk_free (HJ.out.x) 1
  have xf2:=blk_free (HJ.out.x) 2
  have xl:=blk_lt (HJ.out.x)
  simp only [List.getElem?_toArray,List.getElem?_cons_zero,List.getElem?_cons_succ] at x0 x1 x2
  have y0:=blk_cell (HJ.out.y) 0
  have y1:=blk_cell (HJ.out.y) 1
  have y2:=blk_cell (HJ.out.y) 2
  have yf0:=blk_free (HJ.out.y) 0
  have yf1:=blk_free (HJ.out.y) 1
  have yf2:=blk_free (HJ.out.y) 2
  have yl:=blk_lt (HJ.out.y)
  simp only [List.getElem?_toArray,List.getElem?_cons_zero,List.getElem?_cons_succ] at y0 y1 y2
  go_wp2_with (first | (go_at_call 121;refine (HE.out _).mono ?_;rintro e w' ⟨rfl,rfl⟩) | (go_at_call 89;refine (HFQ.out _).mono ?_;rintro e w6 ⟨rfl,hb6⟩;have HJ6:=Lib.hid (HJ.out.below hb6);clear hb6;obtain ⟨zz0,zz1,zz2,zzf0,zzf1,zzf2,zzl⟩:=c3_of HJ6.out.z))
  have h3:((((w6).setCell ⟨w.heap.size + 1 + 1,0,none⟩ (.bool false)).setCell ⟨w.heap.size + 1 + 1,1,none⟩ (.string ⟨#[]⟩)).setCell ⟨w.heap.size + 1 + 1,2,none⟩ (.float .f64 rq)).heap[w.heap.size + 1 + 1]? = some (.cells #[.bool false,.string ⟨#[]⟩,.float .f64 rq] 47 (0,0)):=blk_set (blk_set (blk_set HJ6.out.z 0 _) 1 _) 2 _
  have hb3:Below w.heap.size w ((((w6).setCell ⟨w.heap.size + 1 + 1,0,none⟩ (.bool false)).setCell ⟨w.heap.size + 1 + 1,1,none⟩ (.string ⟨#[]⟩)).setCell ⟨w.heap.size + 1 + 1,2,none⟩ (.float .f64 rq)):=((HJ6.out.bel.setCell (by simp <;> omega) _).setCell (by simp <;> omega) _).setCell (by simp <;> omega) _
  generalize ((((w6).setCell _ _).setCell _ _).setCell _ _) = w3 at h3 hb3 ⊢
  have z0:=blk_cell (h3) 0
  have z1:=blk_cell (h3) 1
  have z2:=blk_cell (h3) 2
  have zf0:=blk_free (h3) 0
  have zf1:=blk_free (h3) 1
  have zf2:=blk_free (h3) 2
  have zl:=blk_lt (h3)
  simp only [List.getElem?_toArray,List.getElem?_cons_zero,List.getElem?_cons_succ] at z0 z1 z2
  refine bodyPost_ret (v:=.agg #[.bool false,.string ⟨#[]⟩,.float .f64 rq]) (by simp [results,Tryz.results92,go_sem,z0,z1,z2]) rfl ?_
  exact ValP.ok (c:=flagV q) hb3 HNQ.out
 ·have e:binaryM 13 ⟨false,ta,na⟩ ⟨true,tb,nb⟩ = .ok (flagV false):=rfl
  rw [e]
  clear e
  obtain ⟨q,hq⟩:∃ q,q = false:=⟨_,rfl⟩
  rw [← hq]
  have HNQ:=Lib.hid (numF q)
  have HFQ:=Lib.hid (fun W=>flag_any q W)
  generalize (if q = true then 4607182418800017408 else 0) = rq at *
  rw [hq] at HFQ
  go_enter Tryz.func92,Tryz.ntmps92
  go_upto_region 1 with fail
  have HJ:=Lib.hid (BJ.start w ⟨false,ta,na⟩ ⟨true,tb,nb⟩ ra rb)
  change Code.wp _ _ _ _ (((w.alloc (vO false ta ra)).alloc (vO true tb rb)).alloc (vO false [] 0))
  generalize ((w.alloc (vO false ta ra)).alloc (vO true tb rb)).alloc (vO false [] 0) = wr at *
  have x0:=blk_cell (HJ.out.x) 0
  have x1:=blk_cell (HJ.out.x) 1
  have x2:=blk_cell (HJ.out.x) 2
  have xf0:=blk_free (HJ.out.x) 0
  have xf1:=blk_free (HJ.out.x) 1
  have xf2:=blk_free (HJ.out.x) 2
  have xl:=blk_lt (HJ.out.x)
  simp only [List.getElem?_toArray,List.getElem?_cons_zero,List.getElem?_cons_succ] at x0 x1 x2
  have y0:=blk_cell (HJ.out.y) 0
  have y1:=blk_cell (HJ.out.y) 1
  have y2:=blk_cell (HJ.out.y) 2
  have yf0:=blk_free (HJ.out.y) 0
  have yf1:=blk_free (HJ.out.y) 1
  have yf2:=blk_free (HJ.out.y) 2
  have yl:=blk_lt (HJ.out.y)
  simp only [List.getElem?_toArray,List.getElem?_cons_zero,List.getElem?_cons_succ] at y0 y1 y2
  go_wp2_with (go_at_call 89;refine (HFQ.out _).mono ?_;rintro e w6 ⟨rfl,hb6⟩;have HJ6:=Lib.hid (HJ.out.below hb6);clear hb6;obtain ⟨zz0,zz1,zz2,zzf0,zzf1,zzf2,zzl⟩:=c3_of HJ6.out.z)
  have h3:((((w6).setCell ⟨w.heap.size + 1 + 1,0,none⟩ (.bool false)).setCell ⟨w.heap.size + 1 + 1,1,none⟩ (.string ⟨#[]⟩)).setCell ⟨w.heap.size + 1 + 1,2,none⟩ (.float .f64 rq)).heap[w.heap.size + 1 + 1]? = some (.cells #[.bool false,.string ⟨#[]⟩,.float .f64 rq] 47 (0,0)):=blk_set (blk_set (blk_set HJ6.out.z 0 _) 1 _) 2 _
  have hb3:Below w.heap.size w ((((w6).setCell ⟨w.heap.size + 1 + 1,0,none⟩ (.bool false)).setCell ⟨w.heap.size + 1 + 1,1,none⟩ (.string ⟨#[]⟩)).setCell ⟨w.heap.size + 1 + 1,2,none⟩ (.float .f64 rq)):=((HJ6.out.bel.setCell (by simp <;> omega) _).setCell (by simp <;> omega) _).setCell (by simp <;> omega) _
  generalize ((((w6).setCell _ _).setCell _ _).setCell _ _) = w3 at h3 hb3 ⊢
  have z0:=blk_cell (h3) 0
  have z1:=blk_cell (h3) 1
  have z2:=blk_cell (h3) 2
  have zf0:=blk_free (h3) 0
  have zf1:=blk_free (h3) 1
  have zf2:=blk_free (h3) 2
  have zl:=blk_lt (h3)
  simp only [List.getElem?_toArray,List.getElem?_cons_zero,List.getElem?_cons_succ] at z0 z1 z2
  refine bodyPost_ret (v:=.agg #[.bool false,.string ⟨#[]⟩,.float .f64 rq]) (by simp [results,Tryz.results92,go_sem,z0,z1,z2]) rfl ?_
  exact ValP.ok (c:=flagV q) hb3 HNQ.out
 ·have e:binaryM 13 ⟨true,ta,na⟩ ⟨false,tb,nb⟩ = .ok (flagV false):=rfl
  rw [e]
  clear e
  obtain ⟨q,hq⟩:∃ q,q = false:=⟨_,rfl⟩
  rw [← hq]
  have HNQ:=Lib.hid (numF q)
  have HFQ:=Lib.hid (fun W=>flag_any q W)
  generalize (if q = true then 4607182418800017408 else 0) = rq at *
  rw [hq] at HFQ
  go_enter Tryz.func92,Tryz.ntmps92
  go_upto_region 1 with fail
  have HJ:=Lib.hid (BJ.start w ⟨true,ta,na⟩ ⟨false,tb,nb⟩ ra rb)
  change Code.wp _ _ _ _ (((w.alloc (vO true ta ra)).alloc (vO false tb rb)).alloc (vO false [] 0))
  generalize ((w.alloc (vO true ta ra)).alloc (vO false tb rb)).alloc (vO false [] 0) = wr at *
  have x0:=blk_cell (HJ.out.x) 0
  have x1:=blk_cell (HJ.out.x) 1
  have x2:=blk_cell (HJ.out.x) 2
  have xf0:=blk_free (HJ.out.x) 0
  have xf1:=blk_free (HJ.out.x) 1
  have xf2:=blk_free (HJ.out.x) 2
  have xl:=blk_lt (HJ.out.x)
  simp only [List.getElem?_toArray,List.getElem?_cons_zero,List.getElem?_cons_succ] at x0 x1 x2
  have y0:=blk_cell (HJ.out.y) 0
  have y1:=blk_cell (HJ.out.y) 1
  have y2:=blk_cell (HJ.out.y) 2
  have yf0:=blk_free (HJ.out.y) 0
  have yf1:=blk_free (HJ.out.y) 1
  have yf2:=blk_free (HJ.out.y) 2
  have yl:=blk_lt (HJ.out.y)
  simp only [List.getElem?_toArray,List.getElem?_cons_zero,List.getElem?_cons_succ] at y0 y1 y2
  go_wp2_with (go_at_call 89;refine (HFQ.out _).mono ?_;rintro e w6 ⟨rfl,hb6⟩;have HJ6:=Lib.hid (HJ.out.below hb6);clear hb6;obtain ⟨zz0,zz1,zz2,zzf0,zzf1,zzf2,zzl⟩:=c3_of HJ6.out.z)
  have h3:((((w6).setCell ⟨w.heap.size + 1 + 1,0,none⟩ (.bool false)).setCell ⟨w.heap.size + 1 + 1,1,none⟩ (.string ⟨#[]⟩)).setCell ⟨w.heap.size + 1 + 1,2,none⟩ (.float .f64 rq)).heap[w.heap.size + 1 + 1]? = some (.cells #[.bool false,.string ⟨#[]⟩,.float .f64 rq] 47 (0,0)):=blk_set (blk_set (blk_set HJ6.out.z 0 _) 1 _) 2 _
  have hb3:Below w.heap.size w ((((w6).setCell ⟨w.heap.size + 1 + 1,0,none⟩ (.bool false)).setCell ⟨w.heap.size + 1 + 1,1,none⟩ (.string ⟨#[]⟩)).setCell ⟨w.heap.size + 1 + 1,2,none⟩ (.float .f64 rq)):=((HJ6.out.bel.setCell (by simp <;> omega) _).setCell (by simp <;> omega) _).setCell (by simp <;> omega) _
  generalize ((((w6).setCell _ _).setCell _ _).setCell _ _) = w3 at h3 hb3 ⊢
  have z0:=blk_cell (h3) 0
  have z1:=blk_cell (h3) 1
  have z2:=blk_cell (h3) 2
  have zf0:=blk_free (h3) 0
  have zf1:=blk_free (h3) 1
  have zf2:=blk_free (h3) 2
  have zl:=blk_lt (h3)
  simp only [List.getElem?_toArray,List.getElem?_cons_zero,List.getElem?_cons_succ] at z0 z1 z2
  refine bodyPost_ret (v:=.agg #[.bool false,.string ⟨#[]⟩,.float .f64 rq]) (by simp [results,Tryz.results92,go_sem,z0,z1,z2]) rfl ?_
  exact ValP.ok (c:=flagV q) hb3 HNQ.out
 ·have e:binaryM 13 ⟨true,ta,na⟩ ⟨true,tb,nb⟩ = .ok (flagV (ta == tb)):=by
   show Except.ok (flagV ((true && ta == tb) || (false && eqB na nb))) = _
   rw [Bool.true_and,Bool.false_and,Bool.or_false]
  rw [e]
  clear e
  by_cases h:ta = tb
  ·subst h
   rw [beq_self_eq_true]
   obtain ⟨q,hq⟩:∃ q,q = true:=⟨_,rfl⟩
   rw [← hq]
   have HNQ:=Lib.hid (numF q)
   have HFQ:=Lib.hid (fun W=>flag_any q W)
   generalize (if q = true then 4607182418800017408 else 0) = rq at *
   rw [hq] at HFQ
   go_enter Tryz.func92,Tryz.ntmps92
   go_upto_region 1 with fail
   have HJ:=Lib.hid (BJ.start w ⟨true,ta,na⟩ ⟨true,ta,nb⟩ ra rb)
   change Code.wp _ _ _ _ (((w.alloc (vO true ta ra)).alloc (vO true ta rb)).alloc (vO false [] 0))
   generalize ((w.alloc (vO true ta ra)).alloc (vO true ta rb)).alloc (vO false [] 0) = wr at *
   have x0:=blk_cell (HJ.out.x) 0
   have x1:=blk_cell (HJ.out.x) 1
   have x2:=blk_cell (HJ.out.x) 2
   have xf0:=blk_free (HJ.out.x) 0
   have xf1:=blk_free (HJ.out.x) 1
   have xf2:=blk_free (HJ.out.x) 2
   have xl:=blk_lt (HJ.out.x)
   simp only [List.getElem?_toArray,List.getElem?_cons_zero,List.getElem?_cons_succ] at x0 x1 x2
   have y0:=blk_cell (HJ.out.y) 0
   have y1:=blk_cell (HJ.out.y) 1
   have y2:=blk_cell (HJ.out.y) 2
   have yf0:=blk_free (HJ.out.y) 0
   have yf1:=blk_free (HJ.out.y) 1
   have yf2:=blk_free (HJ.out.y) 2
   have yl:=blk_lt (HJ.out.y)
   simp only [List.getElem?_toArray,List.getElem?_cons_zero,List.getElem?_cons_succ] at y0 y1 y2
   go_wp2_with (go_at_call 89;refine (HFQ.out _).mono ?_;rintro e w6 ⟨rfl,hb6⟩;have HJ6:=Lib.hid (HJ.out.below hb6);clear hb6;obtain ⟨zz0,zz1,zz2,zzf0,zzf1,zzf2,zzl⟩:=c3_of HJ6.out.z)
   have h3:((((w6).setCell ⟨w.heap.size + 1 + 1,0,none⟩ (.bool false)).setCell ⟨w.heap.size + 1 + 1,1,none⟩ (.string ⟨#[]⟩)).setCell ⟨w.heap.size + 1 + 1,2,none⟩ (.float .f64 rq)).heap[w.heap.size + 1 + 1]? = some (.cells #[.bool false,.string ⟨#[]⟩,.float .f64 rq] 47 (0,0)):=blk_set (blk_set (blk_set HJ6.out.z 0 _) 1 _) 2 _
   have hb3:Below w.heap.size w ((((w6).setCell ⟨w.heap.size + 1 + 1,0,none⟩ (.bool false)).setCell ⟨w.heap.size + 1 + 1,1,none⟩ (.string ⟨#[]⟩)).setCell ⟨w.heap.size + 1 + 1,2,none⟩ (.float .f64 rq)):=((HJ6.out.bel.setCell (by simp <;> omega) _).setCell (by simp <;> omega) _).setCell (by simp <;> omega) _
   generalize ((((w6).setCell _ _).setCell _ _).setCell _ _) = w3 at h3 hb3 ⊢
   have z0:=blk_cell (h3) 0
   have z1:=blk_cell (h3) 1
   have z2:=blk_cell (h3) 2
   have zf0:=blk_free (h3) 0
   have zf1:=blk_free (h3) 1
   have zf2:=blk_free (h3) 2
   have zl:=blk_lt (h3)
   simp only [List.getElem?_toArray,List.getElem?_cons_zero,List.getElem?_cons_succ] at z0 z1 z2
   refine bodyPost_ret (v:=.agg #[.bool false,.string ⟨#[]⟩,.float .f64 rq]) (by simp [results,Tryz.results92,go_sem,z0,z1,z2]) rfl ?_
   exact ValP.ok (c:=flagV q) hb3 HNQ.out
  ·have hbq:(ta == tb) = false:=beq_eq_false_iff_ne.2 h
   rw [hbq]
   obtain ⟨q,hq⟩:∃ q,q = false:=⟨_,rfl⟩
   rw [← hq]
   have HNQ:=Lib.hid (numF q)
   have HFQ:=Lib.hid (fun W=>flag_any q W)
   generalize (if q = true then 4607182418800017408 else 0) = rq at *
   rw [hq] at HFQ
   go_enter Tryz.func92,Tryz.ntmps92
   go_upto_region 1 with fail
   have HJ:=Lib.hid (BJ.start w ⟨true,ta,na⟩ ⟨true,tb,nb⟩ ra rb)
   change Code.wp _ _ _ _ (((w.alloc (vO true ta ra)).alloc (vO true tb rb)).alloc (vO false [] 0))
   generalize ((w.alloc (vO true ta ra)).alloc (vO true tb rb)).alloc (vO false [] 0) = wr at *
   have x0:=blk_cell (HJ.out.x) 0
   have x1:=blk_cell (HJ.out.x) 1
   have x2:=blk_cell (HJ.out.x) 2
   have xf0:=blk_free (HJ.out.x) 0
   have xf1:=blk_free (HJ.out.x) 1
   have xf2:=blk_free (HJ.out.x) 2
   have xl:=blk_lt (HJ.out.x)
   simp only [List.getElem?_toArray,List.getElem?_cons_zero,List.getElem?_cons_succ] at x0 x1 x2
   have y0:=blk_cell (HJ.out.y) 0
   have y1:=blk_cell (HJ.out.y) 1
   have y2:=blk_cell (HJ.out.y) 2
   have yf0:=blk_free (HJ.out.y) 0
   have yf1:=blk_free (HJ.out.y) 1
   have yf2:=blk_free (HJ.out.y) 2
   have yl:=blk_lt (HJ.out.y)
   simp only [List.getElem?_toArray,List.getElem?_cons_zero,List.getElem?_cons_succ] at y0 y1 y2
   go_wp2_with (go_at_call 89;refine (HFQ.out _).mono ?_;rintro e w6 ⟨rfl,hb6⟩;have HJ6:=Lib.hid (HJ.out.below hb6);clear hb6;obtain ⟨zz0,zz1,zz2,zzf0,zzf1,zzf2,zzl⟩:=c3_of HJ6.out.z)
   have h3:((((w6).setCell ⟨w.heap.size + 1 + 1,0,none⟩ (.bool false)).setCell ⟨w.heap.size + 1 + 1,1,none⟩ (.string ⟨#[]⟩)).setCell ⟨w.heap.size + 1 + 1,2,none⟩ (.float .f64 rq)).heap[w.heap.size + 1 + 1]? = some (.cells #[.bool false,.string ⟨#[]⟩,.float .f64 rq] 47 (0,0)):=blk_set (blk_set (blk_set HJ6.out.z 0 _) 1 _) 2 _
   have hb3:Below w.heap.size w ((((w6).setCell ⟨w.heap.size + 1 + 1,0,none⟩ (.bool false)).setCell ⟨w.heap.size + 1 + 1,1,none⟩ (.string ⟨#[]⟩)).setCell ⟨w.heap.size + 1 + 1,2,none⟩ (.float .f64 rq)):=((HJ6.out.bel.setCell (by simp <;> omega) _).setCell (by simp <;> omega) _).setCell (by simp <;> omega) _
   generalize ((((w6).setCell _ _).setCell _ _).setCell _ _) = w3 at h3 hb3 ⊢
   have z0:=blk_cell (h3) 0
   have z1:=blk_cell (h3) 1
   have z2:=blk_cell (h3) 2
   have zf0:=blk_free (h3) 0
   have zf1:=blk_free (h3) 1
   have zf2:=blk_free (h3) 2
   have zl:=blk_lt (h3)
   simp only [List.getElem?_toArray,List.getElem?_cons_zero,List.getElem?_cons_succ] at z0 z1 z2
   refine bodyPost_ret (v:=.agg #[.bool false,.string ⟨#[]⟩,.float .f64 rq]) (by simp [results,Tryz.results92,go_sem,z0,z1,z2]) rfl ?_
   exact ValP.ok (c:=flagV q) hb3 HNQ.out
end Go.Proofs.YtmfpmandkhiknaaGreatDoor.vmm
namespace Go.Proofs.YtmfpmandkhiknaaGreatDoor.vmm
open Go Go.RowKit Ieee
open flt
def Short (l:List Val):Prop:=∀ v ∈ l,v.text.length ≤ 1024
structure Fit (m:Mac):Prop where
 pc0:0 ≤ m.pc
 pc1:m.pc ≤ m.code.length
 few:m.code.length ≤ 1099511627776
 fuel:0 ≤ m.fuel
 ran:0 ≤ m.ran
 sum:m.ran + m.fuel ≤ 1099511627776
 fair:∀ i ∈ m.code,fairM i m.code.length = true
 v64:m.vars.length = 64
 sh:Short m.stack
 shv:Short m.vars
structure Keep (m m2:Mac) (i:Ins):Prop where
 code:m2.code = m.code
 fuel:m2.fuel = m.fuel
 ran:m2.ran = m.ran
 pc:m2.pc = m.pc ∨ ((i.op = 15 ∨ i.op = 16) ∧ m2.pc = i.arg)
 v64:m2.vars.length = m.vars.length
 sh:Short m.stack → Short m.vars → Short m2.stack ∧ Short m2.vars
theorem push_keep {m m2:Mac} {v:Val} (h:pushM m v = .ok m2):m2 = { m with stack:=m.stack ++ [v] } ∧ v.text.length ≤ 1024:=by
 unfold pushM at h
 split at h
 ·cases h
 split at h
 ·cases h
 ·cases h
  exact ⟨rfl,by omega⟩
theorem pop_keep {m m2:Mac} {n:Nat} {vs:List Val} (h:popM m n = .ok (vs,m2)):∃ s,m2 = { m with stack:=s } ∧ (∀ x ∈ s,x ∈ m.stack) ∧ ∀ x ∈ vs,x ∈ m.stack:=by
 unfold popM at h
 split at h
 ·cases h
 ·cases h
  exact ⟨_,rfl,fun x hx=>List.mem_of_mem_take hx,fun x hx=>List.mem_of_mem_drop hx⟩
theorem keep_push {m m1 m2:Mac} {v:Val} {i:Ins} {s:List Val} (h1:m1 = { m with stack:=s }) (hs:∀ x ∈ s,x ∈ m.stack) (h:pushM m1 v = .ok m2):Keep m m2 i:=by
 obtain ⟨rfl,hv⟩:=push_keep h
 subst h1
 refine ⟨rfl,rfl,rfl,.inl rfl,rfl,fun ha hb=>⟨fun x hx => ?_,hb⟩⟩
 rcases List.mem_append.1 hx with e | e
 ·exact ha x (hs x e)
 ·rw [List.mem_singleton.1 e];exact hv
theorem keep_stk {m m1:Mac} {i:Ins} {s:List Val} (h1:m1 = { m with stack:=s }) (hs:∀ x ∈ s,x ∈ m.stack):Keep m m1 i:=by
 subst h1
 exact ⟨rfl,rfl,rfl,.inl rfl,rfl,fun ha hb=>⟨fun x hx=>ha x (hs x hx),hb⟩⟩
theorem headD_mem {vs l:List Val} (h:∀ x ∈ vs,x ∈ l) (hs:Short l):(vs.headD zeroV).text.length ≤ 1024:=by
 cases vs with
 | nil=>decide
 | cons x vs=>exact hs x (h x List.mem_cons_self)
theorem do_keep {m m2:Mac} {i:Ins} (h:doM m i = .ok m2):Keep m m2 i:=by
 unfold doM at h
 by_cases e0:i.op = 0
 ·rw [if_pos e0] at h
  cases h
  exact ⟨rfl,rfl,rfl,.inl rfl,rfl,fun a b=>⟨a,b⟩⟩
 rw [if_neg e0] at h
 by_cases e1:i.op = 1
 ·rw [if_pos e1] at h
  exact keep_push (s:=m.stack) rfl (fun _ h=>h) h
 rw [if_neg e1] at h
 by_cases e2:i.op = 2
 ·rw [if_pos e2] at h
  exact keep_push (s:=m.stack) rfl (fun _ h=>h) h
 rw [if_neg e2] at h
 by_cases e3:i.op = 3
 ·rw [if_pos e3] at h
  exact keep_push (s:=m.stack) rfl (fun _ h=>h) h
 rw [if_neg e3] at h
 by_cases e4:i.op = 4
 ·rw [if_pos e4] at h
  cases hp:popM m 1 with
  | error e=>rw [hp] at h;cases h
  | ok x =>
   obtain ⟨vs,m1⟩:=x
   rw [hp] at h
   cases h
   obtain ⟨s,rfl,hs,hvs⟩:=pop_keep hp
   refine ⟨rfl,rfl,rfl,.inl rfl,by simp,fun a b=>⟨fun x hx=>a x (hs x hx),fun x hx => ?_⟩⟩
   rcases List.mem_or_eq_of_mem_set hx with e | e
   ·exact b x e
   ·rw [e];exact headD_mem hvs a
 rw [if_neg e4] at h
 by_cases e18:i.op = 18
 ·rw [if_pos e18] at h
  cases hp:popM m 1 with
  | error e=>rw [hp] at h;cases h
  | ok x =>
   obtain ⟨vs,m1⟩:=x
   rw [hp] at h
   cases h
   obtain ⟨s,h1,hs,hvs⟩:=pop_keep hp
   exact keep_stk h1 hs
 rw [if_neg e18] at h
 by_cases e15:i.op = 15
 ·rw [if_pos e15] at h
  cases h
  exact ⟨rfl,rfl,rfl,.inr ⟨.inl e15,rfl⟩,rfl,fun a b=>⟨a,b⟩⟩
 rw [if_neg e15] at h
 by_cases e16:i.op = 16
 ·rw [if_pos e16] at h
  cases hp:popM m 1 with
  | error e=>rw [hp] at h;cases h
  | ok x =>
   obtain ⟨vs,m1⟩:=x
   rw [hp] at h
   obtain ⟨s,rfl,hs,hvs⟩:=pop_keep hp
   simp only [Except.ok.injEq] at h
   subst h
   split
   ·exact keep_stk rfl hs
   ·exact ⟨rfl,rfl,rfl,.inr ⟨.inr e16,rfl⟩,rfl,fun a b=>⟨fun x hx=>a x (hs x hx),b⟩⟩
 rw [if_neg e16] at h
 by_cases e5:i.op = 5
 ·rw [if_pos e5] at h
  cases hp:popM m 1 with
  | error e=>rw [hp] at h;cases h
  | ok x =>
   obtain ⟨vs,m1⟩:=x
   rw [hp] at h
   obtain ⟨s,h1,hs,hvs⟩:=pop_keep hp
   simp only at h
   split at h
   ·cases h
   ·exact keep_push h1 hs h
 rw [if_neg e5] at h
 by_cases e6:i.op = 6
 ·rw [if_pos e6] at h
  cases hp:popM m 1 with
  | error e=>rw [hp] at h;cases h
  | ok x =>
   obtain ⟨vs,m1⟩:=x
   rw [hp] at h
   obtain ⟨s,h1,hs,hvs⟩:=pop_keep hp
   exact keep_push h1 hs h
 rw [if_neg e6] at h
 by_cases e17:i.op = 17
 ·rw [if_pos e17] at h
  cases hp:popM m i.arg.toNat with
  | error e=>rw [hp] at h;cases h
  | ok x =>
   obtain ⟨vs,m1⟩:=x
   rw [hp] at h
   obtain ⟨s,h1,hs,hvs⟩:=pop_keep hp
   simp only at h
   unfold askM at h
   split at h
   ·cases hq:pureM i.text (vs.headD zeroV) with
    | error e=>rw [hq] at h;cases h
    | ok v=>rw [hq] at h;exact keep_push h1 hs h
   ·cases hq:argsM { noCal with op:=(formM i.text).1 } vs (formM i.text).2 with
    | error e=>rw [hq] at h;cases h
    | ok c =>
     rw [hq] at h
     cases h
     subst h1
     exact ⟨rfl,rfl,rfl,.inl rfl,rfl,fun a b=>⟨fun x hx=>a x (hs x hx),b⟩⟩
 rw [if_neg e17] at h
 by_cases e19:i.op = 19
 ·rw [if_pos e19] at h
  cases hp:popM m 1 with
  | error e=>rw [hp] at h;cases h
  | ok x=>obtain ⟨vs,m1⟩:=x;rw [hp] at h;cases h
 rw [if_neg e19] at h
 cases hp:popM m 2 with
 | error e=>rw [hp] at h;cases h
 | ok x =>
  obtain ⟨vs,m1⟩:=x
  rw [hp] at h
  obtain ⟨s,h1,hs,hvs⟩:=pop_keep hp
  simp only at h
  cases hq:binaryM i.op (vs.headD zeroV) (vs.getD 1 zeroV) with
  | error e=>rw [hq] at h;cases h
  | ok v=>rw [hq] at h;exact keep_push h1 hs h
def nextM (m:Mac):Mac:={ m with fuel:=m.fuel - 1,ran:=m.ran + 1,pc:=m.pc + 1 }
def atM (m:Mac):Ins:=m.code.getD m.pc.toNat ⟨0,0,0,[]⟩
theorem round_eq (m:Mac):roundM m = if (m.code.length:Int) ≤ m.pc then { m with state:=2 } else if m.fuel = 0 then failM m (2204,[]) else match doM (nextM m) (atM m) with
  | .ok m2=>m2
  | .error e=>failM (nextM m) e:=rfl
theorem at_mem {m:Mac} (h:0 ≤ m.pc) (h2:m.pc < m.code.length):atM m ∈ m.code:=by
 unfold atM
 rw [List.getD_eq_getElem?_getD,List.getElem?_eq_getElem (by omega)]
 exact List.getElem_mem _
theorem Fit.next {m:Mac} (h:Fit m) (h2:m.pc < m.code.length) (hf:m.fuel ≠ 0):Fit (nextM m):=
 ⟨by have:=h.pc0;show 0 ≤ m.pc + 1;omega,by show m.pc + 1 ≤ (m.code.length:Int);omega,h.few,by have:=h.fuel;show 0 ≤ m.fuel - 1;omega,by have:=h.ran;show 0 ≤ m.ran + 1;omega,by have:=h.sum;show m.ran + 1 + (m.fuel - 1) ≤ _;omega,h.fair,h.v64,h.sh,h.shv⟩
theorem Fit.keep {m m2:Mac} {i:Ins} (h:Fit m) (hi:i ∈ m.code) (hk:Keep m m2 i):Fit m2:=by
 obtain ⟨h1,h2,h3,h4,h5,h6⟩:=hk
 have hf:=h.fair i hi
 have hpc:0 ≤ m2.pc ∧ m2.pc ≤ m.code.length:=by
  rcases h4 with e | ⟨ho,e⟩
  ·rw [e];exact ⟨h.pc0,h.pc1⟩
  ·rw [e]
   unfold fairM at hf
   rw [if_neg (by omega),if_pos ho,Bool.and_eq_true,decide_eq_true_eq,decide_eq_true_eq] at hf
   exact hf
 obtain ⟨hs,hv⟩:=h6 h.sh h.shv
 exact ⟨hpc.1,by rw [h1];exact hpc.2,by rw [h1];exact h.few,by rw [h2];exact h.fuel,by rw [h3];exact h.ran,by rw [h2,h3];exact h.sum,by rw [h1];exact h.fair,by rw [h5];exact h.v64,hs,hv⟩
theorem Fit.round {m:Mac} (h:Fit m):Fit (roundM m):=by
 rw [round_eq]
 split
 ·exact ⟨h.pc0,h.pc1,h.few,h.fuel,h.ran,h.sum,h.fair,h.v64,h.sh,h.shv⟩
 split
 ·exact ⟨h.pc0,h.pc1,h.few,h.fuel,h.ran,h.sum,h.fair,h.v64,h.sh,h.shv⟩
 ·rename_i h1 h2
  have hn:=h.next (by omega) h2
  split
  ·rename_i m2 hd
   exact hn.keep (show atM m ∈ m.code from at_mem h.pc0 (by omega)) (do_keep hd)
  ·exact ⟨hn.pc0,hn.pc1,hn.few,hn.fuel,hn.ran,hn.sum,hn.fair,hn.v64,hn.sh,hn.shv⟩
theorem Fit.run {m:Mac} (h:Fit m) (n:Nat):Fit (runM n m):=by
 induction n generalizing m with
 | zero=>exact h
 | succ n ih =>
  rw [runM]
  split
  ·exact ih h.round
  ·exact h
theorem run_stop {m:Mac} (h:m.state ≠ 0) (n:Nat):runM n m = m:=by
 cases n with
 | zero=>rfl
 | succ n=>rw [runM,if_neg h]
end Go.Proofs.YtmfpmandkhiknaaGreatDoor.vmm
