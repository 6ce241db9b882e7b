/-
  Proved: what the small functions of package lex return (the four runs written by wip/bin/lex1.py). Conditions: as each theorem says.
  Proved: what rest, on and blanks of a scanner return. Conditions: as each theorem says.
  Proved: what copyCheck and WriteByte of a strings.Builder do, after the library's own proofs (Derived/Shelf/Strings/Builder1.lean), whose text of copyCheck differs by one panic. Conditions: as each theorem says.
  Proved: what lex.text returns (written by wip/bin/lex3.py). Conditions: as each theorem says.
  Proved: what a scanner's token returns. Conditions: as each theorem says.
  Proved: the ways of a scanner's token (written by wip/bin/lex5.py). Conditions: as each theorem says.
  Proved: the way of a scanner's token at a string (written by wip/bin/lex6.py). Conditions: as each theorem says.
  Proved: the way of a scanner's token at a number (written by wip/bin/lex7.py). Conditions: as each theorem says.
  Proved: the way of a scanner's token at a sign, and at none (written by wip/bin/lex8.py). Conditions: as each theorem says.
-/
import Derived.Test.YtmfpmandkhiknaaGreatDoorPw6
import Derived.Test.YtmfpmandkhiknaaGreatDoorPw3
import Derived.Test.YtmfpmandkhiknaaGreatDoorPw4
import Derived.Shelf.Strings.Builder1
import Derived.WalkKit
import Derived.WalkLawsBesides
import Derived.WalkSpells
import Derived.RegionTactic
import Derived.BigRegion
import Derived.ChangeAlike
import Derived.Deep.RegionWith
import Derived.Deep.CutRange
set_option linter.unusedVariables false
set_option linter.unusedSimpArgs false
namespace Go.Proofs.YtmfpmandkhiknaaGreatDoor.lex
open Go.RowKit
open flt (isD)
open num (list_len drop_cons)
set_option maxRecDepth 100000
theorem all_u8 {p q:UInt8 → Bool} (h:∀ n:Fin 256,p (UInt8.ofNat n.val) = q (UInt8.ofNat n.val)) (c:UInt8):p c = q c:=by
 have:=h ⟨c.toNat,c.toNat_lt⟩
 simpa using this
def iB (c:Int):Bool:=c == 32 || c == 9 || c == 10 || c == 13
theorem blank_eq (c:UInt8):blankB c = iB (c.toNat:Int):=all_u8 (q:=fun c=>iB (c.toNat:Int)) (by decide +kernel) c
theorem runB_yes {p:UInt8 → Bool} {c:UInt8} {l:List UInt8} (h:p c = true):runB p (c :: l) = runB p l + 1:=by simp [runB,h]
theorem runB_no {p:UInt8 → Bool} {c:UInt8} {l:List UInt8} (h:p c = false):runB p (c :: l) = 0:=by simp [runB,h]
theorem ret_i {a b:Int} (h:a = b):Ending.returned (.int .i64 a) = .returned (.int .i64 b):=by rw [h]
end Go.Proofs.YtmfpmandkhiknaaGreatDoor.lex
namespace Go.Proofs.YtmfpmandkhiknaaGreatDoor.lex
open Go.RowKit
open flt (isD)
open heap
open num (list_len drop_cons ret_str)
set_option maxRecDepth 100000
abbrev scV (s:ByteArray) (a:Int):Value:=.agg #[.string s,.int .i64 a]
theorem on_any (s:ByteArray) (a n:Nat) (w:World) (ha:a + n ≤ 2000000000000000001) :
  Calls Tryz.prog 131 #[scV s a,.int .i64 n] w fun e w'=>e = .returned (scV s ((a + n:Nat):Int)) ∧ Below w.heap.size w w':=by
 go_enter Tryz.func131,Tryz.ntmps131
 go_wp2_with fail
 refine bodyPost_ret (v:=scV s ((a + n:Nat):Int)) (by simp [results,Tryz.results131,go_sem]) rfl ⟨rfl,?_⟩
 exact ((Below.refl _ _).alloc (Nat.le_refl _) _).alloc (by simp) _
def ScAt (w:World) (b:Nat) (s:ByteArray) (k:Nat):Prop:=w.heap[b]? = some (.cells #[.string s,.int .i64 k] 150 (0,0))
theorem ScAt.cells {w:World} {b k:Nat} {s:ByteArray} (h:ScAt w b s k):w.cell? ⟨b,0,none⟩ = some (.string s) ∧ w.cell? ⟨b,1,none⟩ = some (.int .i64 k) ∧ w.frozen? ⟨b,0,none⟩ = false ∧ w.frozen? ⟨b,1,none⟩ = false ∧ b < w.heap.size:=
 ⟨by rw [blk_cell h];rfl,by rw [blk_cell h];rfl,blk_free h 0,blk_free h 1,blk_lt h⟩
theorem ScAt.set2 {w:World} {b k0:Nat} {s0:ByteArray} (h:ScAt w b s0 k0) (s:ByteArray) (k:Nat):ScAt ((w.setCell ⟨b,0,none⟩ (.string s)).setCell ⟨b,1,none⟩ (.int .i64 k)) b s k:=blk_set (blk_set h 0 (.string s)) 1 (.int .i64 k)
theorem ScAt.other {w:World} {b c k:Nat} {s:ByteArray} (h:ScAt w b s k) (hn:b ≠ c) (u v:Value):ScAt ((w.setCell ⟨c,0,none⟩ u).setCell ⟨c,1,none⟩ v) b s k:=by
 unfold ScAt;rw [blk_other hn,blk_other hn];exact h
theorem ScAt.below {w w':World} {b k:Nat} {s:ByteArray} (h:ScAt w b s k) (hb:Below w.heap.size w w'):ScAt w' b s k:=blk_below h hb
end Go.Proofs.YtmfpmandkhiknaaGreatDoor.lex
namespace Go.Proofs.YtmfpmandkhiknaaGreatDoor.build
open Go.RowKit Go.Shelf
end Go.Proofs.YtmfpmandkhiknaaGreatDoor.build
namespace Go.Proofs.YtmfpmandkhiknaaGreatDoor.lex
open Go.RowKit
open flt (isD)
open heap
open num (list_len drop_cons ret_pair)
set_option maxRecDepth 100000
def textR (l:List UInt8):List UInt8 × Nat:=match qtS false (l.drop 1) with
 | none=>([],0)
 | some x=>if 1024 < x.1.length then ([],0) else (x.1,x.2 + 1)
def TxAt (s:ByteArray) (i:Nat) (acc:List UInt8):Prop:=1 ≤ i ∧ acc.length ≤ i ∧ qtS false (s.data.toList.drop 1) = (qtS false (s.data.toList.drop i)).map fun x=>(acc ++ x.1,i - 1 + x.2)
theorem TxAt.quote {s:ByteArray} {i:Nat} {acc:List UInt8} (h:TxAt s i acc) (hi:i < s.size) (hc:s[i] = 34):textR s.data.toList = if 1024 < acc.length then ([],0) else (acc,i + 1):=by
 unfold textR
 rw [h.2.2,drop_cons s i hi,hc]
 have e:qtS false (34 :: s.data.toList.drop (i + 1)) = some ([],1):=by simp [qtS]
 rw [e]
 have:=h.1
 simp only [Option.map_some,List.append_nil]
 split
 ·rfl
 ·rw [show i - 1 + 1 + 1 = i + 1 by omega]
theorem TxAt.nil' {s:ByteArray} {i:Nat} {acc:List UInt8} (h:TxAt s i acc) (hn:qtS false (s.data.toList.drop i) = none):textR s.data.toList = ([],0):=by
 unfold textR
 rw [h.2.2,hn];rfl
theorem TxAt.low {s:ByteArray} {i:Nat} {acc:List UInt8} (h:TxAt s i acc) (hi:i < s.size) (h1:s[i] ≠ 34) (hc:s[i].toNat < 32):textR s.data.toList = ([],0):=by
 refine h.nil' ?_
 rw [drop_cons s i hi,qtS,if_neg h1,if_pos hc]
theorem TxAt.over {s:ByteArray} {i:Nat} {acc:List UInt8} (h:TxAt s i acc) (hi:s.size ≤ i):textR s.data.toList = ([],0):=by
 refine h.nil' ?_
 rw [List.drop_eq_nil_of_le (by rw [list_len];exact hi)];rfl
theorem TxAt.step {s:ByteArray} {i:Nat} {acc:List UInt8} (h:TxAt s i acc) (hi:i < s.size) (h1:s[i] ≠ 34) (hc:¬ s[i].toNat < 32) (h2:s[i] ≠ 92):TxAt s (i + 1) (acc ++ [s[i]]):=by
 refine ⟨by omega,by have:=h.2.1;simp;omega,?_⟩
 rw [h.2.2,drop_cons s i hi,qtS,if_neg h1,if_neg hc,if_neg h2,Option.map_map]
 congr 1
 funext x
 have:=h.1
 simp only [Function.comp,List.append_assoc,List.singleton_append,Prod.mk.injEq,true_and]
 omega
theorem TxAt.end' {s:ByteArray} {i:Nat} {acc:List UInt8} (h:TxAt s i acc) (hi:i < s.size) (h2:s[i] = 92) (he:s.size ≤ i + 1):textR s.data.toList = ([],0):=by
 refine h.nil' ?_
 rw [drop_cons s i hi,h2,List.drop_eq_nil_of_le (by rw [list_len];exact he)]
 decide
theorem TxAt.esc {s:ByteArray} {i:Nat} {acc:List UInt8} {e:UInt8} (h:TxAt s i acc) (hi:i + 1 < s.size) (h2:s[i] = 92) (he:escB s[i + 1] = some e):TxAt s (i + 2) (acc ++ [e]):=by
 refine ⟨by omega,by have:=h.2.1;simp;omega,?_⟩
 rw [h.2.2,drop_cons s i (by omega),h2,drop_cons s (i + 1) hi]
 have e1:∀ r:List UInt8,qtS false (92 :: s[i + 1] :: r) = (qtS false r).map fun x=>(e :: x.1,x.2 + 2):=by
  intro r
  rw [qtS,if_neg (by decide),if_neg (by decide),if_pos rfl,qtS,he]
  simp only [Option.map_map]
  rfl
 rw [e1,Option.map_map]
 congr 1
 funext x
 have:=h.1
 simp only [Function.comp,List.append_assoc,List.singleton_append,Prod.mk.injEq,true_and]
 omega
theorem TxAt.noesc {s:ByteArray} {i:Nat} {acc:List UInt8} (h:TxAt s i acc) (hi:i + 1 < s.size) (h2:s[i] = 92) (he:escB s[i + 1] = none):textR s.data.toList = ([],0):=by
 refine h.nil' ?_
 rw [drop_cons s i (by omega),h2,drop_cons s (i + 1) hi,qtS,if_neg (by decide),if_neg (by decide),if_pos rfl,qtS,he]
 rfl
theorem u8_ne {c:UInt8} {n:Nat} (hn:n < 256) (h:((c.toNat:Int) == (n:Int)) = false):c ≠ UInt8.ofNat n:=by
 intro e;subst e
 have:(UInt8.ofNat n).toNat = n:=by simp;omega
 rw [this] at h;simp at h
theorem u8_eq {c:UInt8} {n:Nat} (hn:n < 256) (h:((c.toNat:Int) == (n:Int)) = true):c = UInt8.ofNat n:=by
 apply UInt8.toNat_inj.1
 have e:=beq_iff_eq.1 h
 have:(UInt8.ofNat n).toNat = n:=by simp;omega
 omega
end Go.Proofs.YtmfpmandkhiknaaGreatDoor.lex
namespace Go.Proofs.YtmfpmandkhiknaaGreatDoor.lex
open Go.RowKit
open flt (isD fv ofT ofE OfText_any)
open heap
open num (list_len drop_cons ret_pair)
set_option maxRecDepth 100000
theorem run_store_float {P:Program} {w:World} {a:Addr} {m:Mode} (x:Nat):(store a (.float .f64 x) m).run P w = stored P w a (.float .f64 x) m:=run_store P w a _ m rfl
attribute [local go_sem] run_store_float
abbrev tkV (k:Int) (t:ByteArray) (x:Nat) (a:Nat):Value:=.agg #[.int .i64 k,.string t,.float .f64 x,.int .i64 a]
def TkAt (w:World) (b:Nat) (k:Int) (t:ByteArray) (x:Nat) (a:Nat):Prop:=w.heap[b]? = some (.cells #[.int .i64 k,.string t,.float .f64 x,.int .i64 a] 98 (0,0))
theorem TkAt.cells {w:World} {b:Nat} {k:Int} {t:ByteArray} {x a:Nat} (h:TkAt w b k t x a):w.cell? ⟨b,0,none⟩ = some (.int .i64 k) ∧ w.cell? ⟨b,1,none⟩ = some (.string t) ∧ w.cell? ⟨b,2,none⟩ = some (.float .f64 x) ∧ w.cell? ⟨b,3,none⟩ = some (.int .i64 a) ∧
  w.frozen? ⟨b,0,none⟩ = false ∧ w.frozen? ⟨b,1,none⟩ = false ∧ w.frozen? ⟨b,2,none⟩ = false ∧ w.frozen? ⟨b,3,none⟩ = false ∧ b < w.heap.size:=
 ⟨by rw [blk_cell h];rfl,by rw [blk_cell h];rfl,by rw [blk_cell h];rfl,by rw [blk_cell h];rfl,blk_free h 0,blk_free h 1,blk_free h 2,blk_free h 3,blk_lt h⟩
theorem TkAt.below {w w':World} {b:Nat} {k:Int} {t:ByteArray} {x a:Nat} (h:TkAt w b k t x a) (hb:Below w.heap.size w w'):TkAt w' b k t x a:=blk_below h hb
theorem TkAt.set4 {w:World} {b:Nat} {k0:Int} {t0:ByteArray} {x0 a0:Nat} (h:TkAt w b k0 t0 x0 a0) (k:Int) (t:ByteArray) (x a:Nat) :
  TkAt ((((w.setCell ⟨b,0,none⟩ (.int .i64 k)).setCell ⟨b,1,none⟩ (.string t)).setCell ⟨b,2,none⟩ (.float .f64 x)).setCell ⟨b,3,none⟩ (.int .i64 a)) b k t x a:=by
 have h1:=blk_set h 0 (.int .i64 k)
 have h2:=blk_set h1 1 (.string t)
 have h3:=blk_set h2 2 (.float .f64 x)
 have h4:=blk_set h3 3 (.int .i64 a)
 exact h4
theorem TkAt.other2 {w:World} {b c:Nat} {k:Int} {t:ByteArray} {x a:Nat} (h:TkAt w b k t x a) (hn:b ≠ c) (u v:Value):TkAt ((w.setCell ⟨c,0,none⟩ u).setCell ⟨c,1,none⟩ v) b k t x a:=by
 unfold TkAt;rw [blk_other hn,blk_other hn];exact h
theorem ScAt.other4 {w:World} {b c k:Nat} {s:ByteArray} (h:ScAt w b s k) (hn:b ≠ c) (u v u' v':Value):ScAt ((((w.setCell ⟨c,0,none⟩ u).setCell ⟨c,1,none⟩ v).setCell ⟨c,2,none⟩ u').setCell ⟨c,3,none⟩ v') b s k:=by
 unfold ScAt;rw [blk_other hn,blk_other hn,blk_other hn,blk_other hn];exact h
theorem TkAt.drew' {w:World} {b:Nat} {k:Int} {t:ByteArray} {x a:Nat} (h:TkAt w b k t x a):TkAt w.drew b k t x a:=h
theorem ScAt.drew' {w:World} {b k:Nat} {s:ByteArray} (h:ScAt w b s k):ScAt w.drew b s k:=h
abbrev w4 (w:World) (s:ByteArray) (a:Nat):World:=(((w.alloc (.cells #[.string s,.int .i64 a] 150)).alloc (.cells #[.int .i64 0,.string ⟨#[]⟩,.float .f64 0,.int .i64 0] 98)).alloc (.cells #[.string ⟨#[]⟩,.int .i64 0] 150)).alloc (.cells #[.int .i64 0,.string ⟨#[]⟩,.float .f64 0,.int .i64 a] 98)
structure TF (w:World) (s:ByteArray) (a:Nat) (k:Int) (t:ByteArray) (x:Nat) (w1:World):Prop where
 sc:ScAt w1 w.heap.size s a
 r1:TkAt w1 (w.heap.size + 1) 0 ⟨#[]⟩ 0 0
 r2:ScAt w1 (w.heap.size + 1 + 1) ⟨#[]⟩ 0
 tk:TkAt w1 (w.heap.size + 1 + 1 + 1) k t x a
 bl:Below w.heap.size w w1
theorem TF.start (w:World) (s:ByteArray) (a:Nat):TF w s a 0 ⟨#[]⟩ 0 (w4 w s a):=by
 refine ⟨?_,?_,?_,?_,?_⟩
 ·exact blk_old (blk_old (blk_old (blk_new _ _) _) _) _
 ·have:=blk_new (w.alloc (.cells #[.string s,.int .i64 a] 150)) (.cells #[.int .i64 0,.string ⟨#[]⟩,.float .f64 0,.int .i64 0] 98)
  exact blk_old (blk_old (by simpa using this) _) _
 ·have:=blk_new ((w.alloc (.cells #[.string s,.int .i64 a] 150)).alloc (.cells #[.int .i64 0,.string ⟨#[]⟩,.float .f64 0,.int .i64 0] 98)) (.cells #[.string ⟨#[]⟩,.int .i64 0] 150)
  exact blk_old (by simpa using this) _
 ·have:=blk_new (((w.alloc (.cells #[.string s,.int .i64 a] 150)).alloc (.cells #[.int .i64 0,.string ⟨#[]⟩,.float .f64 0,.int .i64 0] 98)).alloc (.cells #[.string ⟨#[]⟩,.int .i64 0] 150)) (.cells #[.int .i64 0,.string ⟨#[]⟩,.float .f64 0,.int .i64 a] 98)
  unfold TkAt
  simpa using this
 ·exact ((((Below.refl _ _).alloc (Nat.le_refl _) _).alloc (by simp) _).alloc (by simp;omega) _).alloc (by simp;omega) _
theorem TF.below {w w1 w2:World} {s:ByteArray} {a:Nat} {k:Int} {t:ByteArray} {x:Nat} (h:TF w s a k t x w1) (hb:Below w1.heap.size w1 w2):TF w s a k t x w2:=
 ⟨h.sc.below hb,h.r1.below hb,h.r2.below hb,h.tk.below hb,h.bl.trans (hb.mono h.bl.size)⟩
structure TR (w:World) (k:Int) (t:ByteArray) (x a:Nat) (s:ByteArray) (n:Nat) (w1:World):Prop where
 r1:TkAt w1 (w.heap.size + 1) k t x a
 r2:ScAt w1 (w.heap.size + 1 + 1) s n
 bl:Below w.heap.size w w1
theorem TF.out {w w1:World} {s0:ByteArray} {a0:Nat} {k0:Int} {t0:ByteArray} {x0:Nat} (h:TF w s0 a0 k0 t0 x0 w1) (k:Int) (t:ByteArray) (x a:Nat) (s:ByteArray) (n:Nat) :
  TR w k t x a s n (((((((w1.setCell ⟨w.heap.size + 1,0,none⟩ (.int .i64 k)).setCell ⟨w.heap.size + 1,1,none⟩ (.string t)).setCell ⟨w.heap.size + 1,2,none⟩ (.float .f64 x)).setCell ⟨w.heap.size + 1,3,none⟩ (.int .i64 a)).setCell ⟨w.heap.size + 1 + 1,0,none⟩ (.string s)).setCell ⟨w.heap.size + 1 + 1,1,none⟩ (.int .i64 n)).drew):=by
 refine ⟨((h.r1.set4 k t x a).other2 (by omega) _ _).drew',((h.r2.other4 (by omega) _ _ _ _).set2 s n).drew',?_⟩
 exact ((((((h.bl.setCell (by simp) _).setCell (by simp) _).setCell (by simp) _).setCell (by simp) _).setCell (by simp;omega) _).setCell (by simp;omega) _).drew
end Go.Proofs.YtmfpmandkhiknaaGreatDoor.lex
namespace Go.Proofs.YtmfpmandkhiknaaGreatDoor.lex
open Go.RowKit
open flt (isD fv ofT ofE OfText_any)
open heap
open num (list_len drop_cons ret_pair bcell)
set_option maxRecDepth 100000
attribute [local go_sem] run_store_float
theorem TF.put2 {w w1:World} {s:ByteArray} {a:Nat} {k0:Int} {t0:ByteArray} {x:Nat} (h:TF w s a k0 t0 x w1) (k:Int) (t:ByteArray) :
  TF w s a k t x ((w1.setCell ⟨w.heap.size + 1 + 1 + 1,0,none⟩ (.int .i64 k)).setCell ⟨w.heap.size + 1 + 1 + 1,1,none⟩ (.string t)):=by
 refine ⟨h.sc.other (by omega) _ _,h.r1.other2 (by omega) _ _,h.r2.other (by omega) _ _,?_,(h.bl.setCell (by simp;omega) _).setCell (by simp;omega) _⟩
 have h1:=blk_set h.tk 0 (.int .i64 k)
 have h2:=blk_set h1 1 (.string t)
 exact h2
theorem TF.drew' {w w1:World} {s:ByteArray} {a:Nat} {k:Int} {t:ByteArray} {x:Nat} (h:TF w s a k t x w1):TF w s a k t x w1.drew:=⟨h.sc,h.r1,h.r2,h.tk,h.bl.drew⟩
def outW (w w1:World) (k:Int) (t:ByteArray) (x a:Nat) (s:ByteArray) (n:Nat):World:=(((((w1.setCell ⟨w.heap.size + 1,0,none⟩ (.int .i64 k)).setCell ⟨w.heap.size + 1,1,none⟩ (.string t)).setCell ⟨w.heap.size + 1,2,none⟩ (.float .f64 x)).setCell ⟨w.heap.size + 1,3,none⟩ (.int .i64 a)).setCell ⟨w.heap.size + 1 + 1,0,none⟩ (.string s)).setCell ⟨w.heap.size + 1 + 1,1,none⟩ (.int .i64 n)
theorem TF.outN {w w1:World} {s0:ByteArray} {a0:Nat} {k0:Int} {t0:ByteArray} {x0:Nat} (h:TF w s0 a0 k0 t0 x0 w1) (k:Int) (t:ByteArray) (x a:Nat) (s:ByteArray) (n:Nat) :
  TR w k t x a s n (outW w w1 k t x a s n):=by
 refine ⟨(h.r1.set4 k t x a).other2 (by omega) _ _,(h.r2.other4 (by omega) _ _ _ _).set2 s n,?_⟩
 exact (((((h.bl.setCell (by simp) _).setCell (by simp) _).setCell (by simp) _).setCell (by simp) _).setCell (by simp;omega) _).setCell (by simp;omega) _
theorem TF.put3 {w w1:World} {s:ByteArray} {a:Nat} {k0:Int} {t0:ByteArray} {x0:Nat} (h:TF w s a k0 t0 x0 w1) (k:Int) (t:ByteArray) (x:Nat) :
  TF w s a k t x (((w1.setCell ⟨w.heap.size + 1 + 1 + 1,0,none⟩ (.int .i64 k)).setCell ⟨w.heap.size + 1 + 1 + 1,1,none⟩ (.string t)).setCell ⟨w.heap.size + 1 + 1 + 1,2,none⟩ (.float .f64 x)):=by
 have h0:=h.put2 k t
 refine ⟨?_,?_,?_,?_,h0.bl.setCell (by simp;omega) _⟩
 ·unfold ScAt;rw [blk_other (by omega)];exact h0.sc
 ·unfold TkAt;rw [blk_other (by omega)];exact h0.r1
 ·unfold ScAt;rw [blk_other (by omega)];exact h0.r2
 ·exact blk_set h0.tk 2 (.float .f64 x)
set_option maxHeartbeats 4000000 in
theorem tk_num (s R:ByteArray) (a:Nat) (w:World) (hz:R.size ≤ 1000000000) (ha:a + R.size ≤ 2000000000) (h0:0 < R.size) (hE:R.toList.isEmpty = false) (HR:Hid (∀ W,Calls Tryz.prog 127 #[scV s a] W fun e w'=>e = .returned (.string R) ∧ Below W.heap.size W w'))
  (HL:Hid (∀ W,Calls Tryz.prog 132 #[.int .u8 (R[0].toNat:Int)] W fun e w'=>e = .returned (.bool false) ∧ W = w')) (HD:Hid (∀ W,Calls Tryz.prog 134 #[.int .u8 (R[0].toNat:Int)] W fun e w'=>e = .returned (.bool true) ∧ W = w'))
  (N0 n:Nat) (b:Bool) (hn0:N0 ≤ R.size) (hnn:n ≤ R.size) (HN:Hid (∀ W,Calls Tryz.prog 126 #[.string R,.func (.func 134) #[] #[]] W fun e w'=>e = .returned (.int .i64 N0) ∧ W = w'))
  (HP:Hid ((R.size ≤ N0 + 1 ∧ b = false) ∨ (∃ h:N0 + 1 < R.size,((R[N0].toNat:Int) == 46) = false ∧ b = false) ∨
   (∃ h:N0 + 1 < R.size,((R[N0].toNat:Int) == 46) = true ∧ Hid (∀ W,Calls Tryz.prog 134 #[.int .u8 (R[N0 + 1].toNat:Int)] W fun e w'=>e = .returned (.bool b) ∧ W = w'))))
  (HQ:Hid ((b = false ∧ n = N0) ∨ (b = true ∧ N0 + 1 < R.size ∧ ∃ m:Nat,Hid (∀ W,Calls Tryz.prog 126 #[.string (R.extract (N0 + 1) R.size),.func (.func 134) #[] #[]] W fun e w'=>e = .returned (.int .i64 m) ∧ W = w') ∧ n = N0 + (1 + m))))
  (T:ByteArray) (hT0:R.extract 0 n = T) (x:Nat) (er:Int) (HX:Hid (∀ W,Calls Tryz.prog 135 #[.string T] W fun e w'=>e = .returned (.tuple #[fv x,.int .i64 er]) ∧ Below W.heap.size W w'))
  (V:Value) (HS:Hid ((er ≠ 0 ∧ V = .tuple #[tkV 0 ⟨#[]⟩ 0 a,scV s a,.int .i64 1802]) ∨ (er = 0 ∧ R.size ≤ n ∧ V = .tuple #[tkV 2 T x a,scV s ((a + n:Nat):Int),.int .i64 0]) ∨
   (er = 0 ∧ ∃ h:n < R.size,Hid (∀ W,Calls Tryz.prog 132 #[.int .u8 (R[n].toNat:Int)] W fun e w'=>e = .returned (.bool true) ∧ W = w') ∧ V = .tuple #[tkV 0 ⟨#[]⟩ 0 a,scV s a,.int .i64 1802]) ∨
   (er = 0 ∧ ∃ h:n < R.size,Hid (∀ W,Calls Tryz.prog 132 #[.int .u8 (R[n].toNat:Int)] W fun e w'=>e = .returned (.bool false) ∧ W = w') ∧ ((R[n].toNat:Int) == 46) = true ∧ V = .tuple #[tkV 0 ⟨#[]⟩ 0 a,scV s a,.int .i64 1802]) ∨
   (er = 0 ∧ ∃ h:n < R.size,Hid (∀ W,Calls Tryz.prog 132 #[.int .u8 (R[n].toNat:Int)] W fun e w'=>e = .returned (.bool false) ∧ W = w') ∧ ((R[n].toNat:Int) == 46) = false ∧ V = .tuple #[tkV 2 T x a,scV s ((a + n:Nat):Int),.int .i64 0]))) :
  Calls Tryz.prog 96 #[scV s a] w fun e w'=>e = .returned (V) ∧ Below w.heap.size w w':=by
 have HF:=Lib.hid (TF.start w s a)
 go_enter Tryz.func96,Tryz.ntmps96
 go_wp2_with fail
 refine (HR.out (w4 w s a)).mono ?_
 rintro e w1 ⟨rfl,hb1⟩
 have HF1:=Lib.hid (HF.out.below hb1)
 clear hb1 HF
 obtain ⟨c0,c1,f0,f1,hl0⟩:=HF1.out.sc.cells
 obtain ⟨d0,d1,d2,d3,g0,g1,g2,g3,hl1⟩:=HF1.out.r1.cells
 obtain ⟨p0,p1,q0,q1,hl2⟩:=HF1.out.r2.cells
 obtain ⟨m0,m1,m2,m3,n0,n1,n2,n3,hl3⟩:=HF1.out.tk.cells
 go_upto_region 13 with (first | (go_at_call 132;refine (HL.out _).mono ?_;rintro e w' ⟨rfl,rfl⟩) | (go_at_call 134;refine (HD.out _).mono ?_;rintro e w' ⟨rfl,rfl⟩) | (go_at_call 126;refine (HN.out _).mono ?_;rintro e w' ⟨rfl,rfl⟩))
 go_cut [67] from 50 to 66 (fun s67 wx=>s67 = .bool b ∧ wx = w1)
 case first =>
  clear HS HX HR HQ
  rcases HP.out with ⟨h1,rfl⟩ | ⟨h1,h2,rfl⟩ | ⟨h1,h2,HG⟩
  ·clear HP
   have hl:decide ((N0:Int) + 1 < R.size) = false:=decide_eq_false (by omega)
   go_wp2_with fail
   go_meet
   exact ⟨rfl,rfl⟩
  ·clear HP
   have hl:decide ((N0:Int) + 1 < R.size) = true:=decide_eq_true (by omega)
   have h3:N0 < R.size:=by omega
   go_wp2_with fail
   go_meet
   exact ⟨rfl,rfl⟩
  ·clear HP
   have hl:decide ((N0:Int) + 1 < R.size) = true:=decide_eq_true (by omega)
   have h3:N0 < R.size:=by omega
   go_wp2_with (go_at_call 134;refine (HG.out _).mono ?_;rintro e w' ⟨rfl,rfl⟩)
   go_meet
   exact ⟨rfl,rfl⟩
 case rest =>
 obtain ⟨rfl,rfl⟩:=hcut
 clear HP HN
 go_upto_if 67 with (fail)
 go_cut [8] from 68 to 75 (fun s8 wx=>s8 = .int .i64 (n:Nat) ∧ wx = wc)
 case first =>
  clear HS HX HR
  rcases HQ.out with ⟨rfl,rfl⟩ | ⟨rfl,h1,m,HM,rfl⟩
  ·clear HQ
   go_wp2_with fail
   go_meet
   exact ⟨rfl,rfl⟩
  ·clear HQ
   go_wp2_with (go_at_call 126;refine (HM.out _).mono ?_;rintro e w' ⟨rfl,rfl⟩)
   go_meet
   exact ⟨by first | rfl | (congr 1;omega),rfl⟩
 case rest =>
  obtain ⟨rfl,rfl⟩:=hcut
  clear HQ
  go_wp2_with fail
  refine (HX.out _).mono ?_;rintro e w2 ⟨rfl,hb2⟩
  have HF2:=Lib.hid (HF1.out.below hb2)
  clear hb2 HF1 c0 c1 f0 f1 hl0 d0 d1 d2 d3 g0 g1 g2 g3 hl1 p0 p1 q0 q1 hl2 m0 m1 m2 m3 n0 n1 n2 n3 hl3
  obtain ⟨c0,c1,f0,f1,hl0⟩:=HF2.out.sc.cells
  obtain ⟨d0,d1,d2,d3,g0,g1,g2,g3,hl1⟩:=HF2.out.r1.cells
  obtain ⟨p0,p1,q0,q1,hl2⟩:=HF2.out.r2.cells
  obtain ⟨m0,m1,m2,m3,n0,n1,n2,n3,hl3⟩:=HF2.out.tk.cells
  rcases HS.out with ⟨h1,rfl⟩ | ⟨rfl,h1,rfl⟩ | ⟨rfl,h1,HG,rfl⟩ | ⟨rfl,h1,HG,h2,rfl⟩ | ⟨rfl,h1,HG,h2,rfl⟩
  ·clear HS
   have h2:(er == 0) = false:=beq_eq_false_iff_ne.2 h1
   go_wp2_with fail
   go_region
   all_goals
    go_wp2
    have hT:=HF2.out.out 0 ⟨#[]⟩ 0 a s a
    obtain ⟨e0,e1,e2,e3,_⟩:=hT.r1.cells
    obtain ⟨e4,e5,_⟩:=hT.r2.cells
    exact bodyPost_ret (v:=.tuple #[tkV 0 ⟨#[]⟩ 0 a,scV s a,.int .i64 1802]) (by simp [results,Tryz.results96,go_sem,e0,e1,e2,e3,e4,e5]) rfl ⟨rfl,hT.bl⟩
  ·clear HS
   have hl:decide ((n:Int) < R.size) = false:=decide_eq_false (by omega)
   go_wp2_with fail
   have HO:=Lib.hid (fun W=>on_any s a n W (by omega))
   go_region
   go_wp2
   have HF1:=Lib.hid (HF2.out.put3 2 T x).drew'
   clear HF2
   have hF2:=HF1.out
   generalize (((w2.setCell ⟨w.heap.size + 1 + 1 + 1,0,none⟩ (.int .i64 2)).setCell ⟨w.heap.size + 1 + 1 + 1,1,none⟩ (.string T)).setCell ⟨w.heap.size + 1 + 1 + 1,2,none⟩ (.float .f64 x)).drew = w5 at hF2 ⊢
   have HF2:=Lib.hid hF2
   clear hF2 HF1 c0 c1 f0 f1 hl0 d0 d1 d2 d3 g0 g1 g2 g3 hl1 p0 p1 q0 q1 hl2 m0 m1 m2 m3 n0 n1 n2 n3 hl3
   obtain ⟨c0,c1,f0,f1,hl0⟩:=HF2.out.sc.cells
   obtain ⟨d0,d1,d2,d3,g0,g1,g2,g3,hl1⟩:=HF2.out.r1.cells
   obtain ⟨p0,p1,q0,q1,hl2⟩:=HF2.out.r2.cells
   obtain ⟨m0,m1,m2,m3,n0,n1,n2,n3,hl3⟩:=HF2.out.tk.cells
   go_region_with (go_at_call 131;refine (HO.out _).mono ?_;rintro e w3 ⟨rfl,hb3⟩;have hF3:TF w s a 2 T x w3:=(by first | exact HF2.out.below hb3 | exact HF2.out.drew'.below hb3);clear hb3;obtain ⟨a0,a1,a2,a3,b0,b1,b2,b3,k1⟩:=hF3.r1.cells;obtain ⟨a4,a5,b4,b5,k2⟩:=hF3.r2.cells;obtain ⟨a6,a7,a8,a9,b6,b7,b8,b9,k3⟩:=hF3.tk.cells;obtain ⟨y0,y1,y2,y3,k4⟩:=hF3.sc.cells;have HF3:=Lib.hid hF3;clear hF3)
   all_goals
    go_wp2
    rw [show ((a:Int) + (n:Int)) = ((a + n:Nat):Int) by omega]
    have hT:=HF3.out.outN 2 T x a s (a + n)
    change bodyPost _ _ _ _ _ (outW w w3 2 T x a s (a + n))
    generalize outW w w3 2 T x a s (a + n) = W at hT ⊢
    obtain ⟨e0,e1,e2,e3,_⟩:=hT.r1.cells
    obtain ⟨e4,e5,_⟩:=hT.r2.cells
    exact bodyPost_ret (v:=.tuple #[tkV 2 T x a,scV s ((a + n:Nat):Int),.int .i64 0]) (by simp [results,Tryz.results96,go_sem,e0,e1,e2,e3,e4,e5]) rfl ⟨rfl,hT.bl⟩
  ·clear HS
   have hl:decide ((n:Int) < R.size) = true:=decide_eq_true (by omega)
   go_wp2_with (go_at_call 132;refine (HG.out _).mono ?_;rintro e w' ⟨rfl,rfl⟩)
   go_region
   all_goals
    go_wp2
    have hT:=HF2.out.out 0 ⟨#[]⟩ 0 a s a
    obtain ⟨e0,e1,e2,e3,_⟩:=hT.r1.cells
    obtain ⟨e4,e5,_⟩:=hT.r2.cells
    exact bodyPost_ret (v:=.tuple #[tkV 0 ⟨#[]⟩ 0 a,scV s a,.int .i64 1802]) (by simp [results,Tryz.results96,go_sem,e0,e1,e2,e3,e4,e5]) rfl ⟨rfl,hT.bl⟩
  ·clear HS
   have hl:decide ((n:Int) < R.size) = true:=decide_eq_true (by omega)
   go_wp2_with (go_at_call 132;refine (HG.out _).mono ?_;rintro e w' ⟨rfl,rfl⟩)
   go_region
   all_goals
    go_wp2
    have hT:=HF2.out.out 0 ⟨#[]⟩ 0 a s a
    obtain ⟨e0,e1,e2,e3,_⟩:=hT.r1.cells
    obtain ⟨e4,e5,_⟩:=hT.r2.cells
    exact bodyPost_ret (v:=.tuple #[tkV 0 ⟨#[]⟩ 0 a,scV s a,.int .i64 1802]) (by simp [results,Tryz.results96,go_sem,e0,e1,e2,e3,e4,e5]) rfl ⟨rfl,hT.bl⟩
  ·clear HS
   have hl:decide ((n:Int) < R.size) = true:=decide_eq_true (by omega)
   go_wp2_with (go_at_call 132;refine (HG.out _).mono ?_;rintro e w' ⟨rfl,rfl⟩)
   have HO:=Lib.hid (fun W=>on_any s a n W (by omega))
   go_region
   go_wp2
   have HF1:=Lib.hid (HF2.out.put3 2 T x).drew'
   clear HF2
   have hF2:=HF1.out
   generalize (((w2.setCell ⟨w.heap.size + 1 + 1 + 1,0,none⟩ (.int .i64 2)).setCell ⟨w.heap.size + 1 + 1 + 1,1,none⟩ (.string T)).setCell ⟨w.heap.size + 1 + 1 + 1,2,none⟩ (.float .f64 x)).drew = w5 at hF2 ⊢
   have HF2:=Lib.hid hF2
   clear hF2 HF1 c0 c1 f0 f1 hl0 d0 d1 d2 d3 g0 g1 g2 g3 hl1 p0 p1 q0 q1 hl2 m0 m1 m2 m3 n0 n1 n2 n3 hl3
   obtain ⟨c0,c1,f0,f1,hl0⟩:=HF2.out.sc.cells
   obtain ⟨d0,d1,d2,d3,g0,g1,g2,g3,hl1⟩:=HF2.out.r1.cells
   obtain ⟨p0,p1,q0,q1,hl2⟩:=HF2.out.r2.cells
   obtain ⟨m0,m1,m2,m3,n0,n1,n2,n3,hl3⟩:=HF2.out.tk.cells
   go_region_with (go_at_call 131;refine (HO.out _).mono ?_;rintro e w3 ⟨rfl,hb3⟩;have hF3:TF w s a 2 T x w3:=(by first | exact HF2.out.below hb3 | exact HF2.out.drew'.below hb3);clear hb3;obtain ⟨a0,a1,a2,a3,b0,b1,b2,b3,k1⟩:=hF3.r1.cells;obtain ⟨a4,a5,b4,b5,k2⟩:=hF3.r2.cells;obtain ⟨a6,a7,a8,a9,b6,b7,b8,b9,k3⟩:=hF3.tk.cells;obtain ⟨y0,y1,y2,y3,k4⟩:=hF3.sc.cells;have HF3:=Lib.hid hF3;clear hF3)
   all_goals
    go_wp2
    rw [show ((a:Int) + (n:Int)) = ((a + n:Nat):Int) by omega]
    have hT:=HF3.out.outN 2 T x a s (a + n)
    change bodyPost _ _ _ _ _ (outW w w3 2 T x a s (a + n))
    generalize outW w w3 2 T x a s (a + n) = W at hT ⊢
    obtain ⟨e0,e1,e2,e3,_⟩:=hT.r1.cells
    obtain ⟨e4,e5,_⟩:=hT.r2.cells
    exact bodyPost_ret (v:=.tuple #[tkV 2 T x a,scV s ((a + n:Nat):Int),.int .i64 0]) (by simp [results,Tryz.results96,go_sem,e0,e1,e2,e3,e4,e5]) rfl ⟨rfl,hT.bl⟩
def signsL:List (List UInt8) := [[61,61],[123],[125],[40],[41],[59],[44],[61],[60],[43],[45],[42],[47],[37],[38],[33]]
def SgAt (w:World) (b:Nat):Prop:=w.heap[b]? = some (.cells (signsL.map fun l=>Value.string ⟨l.toArray⟩).toArray 9 (0,0))
theorem SgAt.cell {w:World} {b j:Nat} {g:List UInt8} (h:SgAt w b) (hg:signsL[j]? = some g):w.cell? ⟨b,j,none⟩ = some (.string ⟨g.toArray⟩):=by
 rw [blk_cell h,List.getElem?_toArray,List.getElem?_map,hg];rfl
end Go.Proofs.YtmfpmandkhiknaaGreatDoor.lex
