/-
  Proved: what a scanner's token returns, at every place of every text. Conditions: as each theorem says.
  Proved: what lex.Tokens returns, of every text. Conditions: as each theorem says.
-/
import Derived.Test.YtmfpmandkhiknaaGreatDoorPw7
import Derived.Lib.SmallJoins
import Derived.Test.YtmfpmandkhiknaaGreatDoorPw2
set_option linter.unusedVariables false
set_option linter.unusedSimpArgs false
namespace Go.Proofs.YtmfpmandkhiknaaGreatDoor.lex
open Go.RowKit
open flt (isD fv ofT ofE OfText_any str_size)
open heap
open num (list_len drop_cons ret_pair bcell)
set_option maxRecDepth 100000
theorem ext_take (R:ByteArray) (n:Nat):R.extract 0 n = ⟨(R.data.toList.take n).toArray⟩:=by
 apply ByteArray.ext
 apply Array.toList_inj.1
 rw [ByteArray.data_extract,Array.toList_extract,List.extract_eq_take_drop]
 simp
theorem tok_num {t:List UInt8} (hl:letB (t.getD 0 0) = false) (hd:isD (t.getD 0 0) = true):tok t = match ofT (t.take (numEnd t)) with
  | none=>.error 1802
  | some x=>if decide (numEnd t < t.length) && (letB (t.getD (numEnd t) 0) || t.getD (numEnd t) 0 == 46) then .error 1802 else .ok (2,t.take (numEnd t),x,numEnd t):=by
 unfold tok;rw [if_neg (by rw [hl];exact Bool.false_ne_true),if_pos hd];rfl
end Go.Proofs.YtmfpmandkhiknaaGreatDoor.lex
namespace Go.Proofs.YtmfpmandkhiknaaGreatDoor.lex
open Go.RowKit
open flt (isD fv ofT ofE OfText_any str_size)
open heap
open num (list_len drop_cons ret_pair bcell)
set_option maxRecDepth 100000
attribute [local go_sem] run_store_float
theorem add0 (g j:Nat):(⟨g,0,none⟩:Addr).add j = ⟨g,j,none⟩:=by unfold Addr.add;split <;> simp_all
def tkC (t:Tk):List Value := [.int .i64 t.kind,.string ⟨t.text.toArray⟩,.float .f64 t.num,.int .i64 t.at']
def tkCs (ts:List Tk):List Value:=ts.flatMap tkC
theorem tkCs_get (ts:List Tk) (j:Nat) (m:Tk) (h:ts[j]? = some m):(tkCs ts)[j * 4]? = some (.int .i64 m.kind) ∧ (tkCs ts)[j * 4 + 1]? = some (.string ⟨m.text.toArray⟩) ∧ (tkCs ts)[j * 4 + 2]? = some (.float .f64 m.num) ∧ (tkCs ts)[j * 4 + 3]? = some (.int .i64 m.at'):=by
 induction ts generalizing j with
 | nil=>simp at h
 | cons x ms ih =>
  have e:tkCs (x :: ms) = tkC x ++ tkCs ms:=rfl
  rw [e]
  cases j with
  | zero =>
   simp at h
   subst h
   exact ⟨rfl,rfl,rfl,rfl⟩
  | succ j =>
   have:=ih j (by simpa using h)
   have l3:(tkC x).length = 4:=rfl
   rw [List.getElem?_append_right (by rw [l3];omega),List.getElem?_append_right (by rw [l3];omega),List.getElem?_append_right (by rw [l3];omega),List.getElem?_append_right (by rw [l3];omega),l3]
   rw [show (j + 1) * 4 - 4 = j * 4 by omega,show (j + 1) * 4 + 1 - 4 = j * 4 + 1 by omega,show (j + 1) * 4 + 2 - 4 = j * 4 + 2 by omega,show (j + 1) * 4 + 3 - 4 = j * 4 + 3 by omega]
   exact this
def TRow (w:World) (base:Nat) (v:Value) (ts:List Tk):Prop:=w.ownsRow base 98 4 v ts.length (tkCs ts)
theorem trow_kept {w w':World} {base:Nat} {v:Value} {ts:List Tk} (h:TRow w base v ts) (hk:∀ g o,v.ownBlock = some g → w.heap[g]? = some o → w'.heap[g]? = some o):TRow w' base v ts:=by
 obtain ⟨hl,h1 | ⟨g,c,cur,rfl,h2,h3,h4⟩⟩:=h
 ·exact ⟨hl,.inl h1⟩
 ·exact ⟨hl,.inr ⟨g,c,cur,rfl,h2,hk g _ rfl h3,h4⟩⟩
theorem TRow.below {w w':World} {base:Nat} {v:Value} {ts:List Tk} (h:TRow w base v ts) (hb:Below w.heap.size w w'):TRow w' base v ts:=trow_kept h (fun g o hg ho=>blk_below ho hb)
theorem TRow.slice {w:World} {base:Nat} {v:Value} {ts:List Tk} (h:TRow w base v ts):∃ a c,v = .slice a ts.length c:=by
 obtain ⟨_,⟨h,h0⟩ | ⟨_,_,_,h,_⟩⟩:=h
 ·exact ⟨none,0,by rw [h,h0]⟩
 ·exact ⟨_,_,h⟩
theorem TRow.cells {w:World} {base:Nat} {v:Value} {ts:List Tk} (h:TRow w base v ts):(v = .slice none 0 0 ∧ ts = []) ∨ ∃ g c,v = .slice (some ⟨g,0,none⟩) ts.length c ∧ g < w.heap.size ∧ base ≤ g ∧ ts.length ≤ c ∧ c ≤ maxLen ∧
  ∀ j m,ts[j]? = some m → w.cell? ⟨g,j * 4,none⟩ = some (.int .i64 m.kind) ∧ w.cell? ⟨g,j * 4 + 1,none⟩ = some (.string ⟨m.text.toArray⟩) ∧ w.cell? ⟨g,j * 4 + 2,none⟩ = some (.float .f64 m.num) ∧ w.cell? ⟨g,j * 4 + 3,none⟩ = some (.int .i64 m.at'):=by
 have hlt:=World.ownsRow.lt h
 have hcl := @World.ownsRow.cells _ _ _ _ _ _ _ h
 obtain ⟨hl,⟨h1,h2⟩ | ⟨g,c,cur,hv,h2,h3,h4,h5,h6,h7⟩⟩:=h
 ·exact .inl ⟨h1,List.length_eq_zero_iff.1 h2⟩
 ·refine .inr ⟨g,c,hv,(hlt g (by rw [hv];rfl)).2,h2,h4,h5,fun j m hm => ?_⟩
  obtain ⟨e0,e1,e2,e3⟩:=tkCs_get ts j m hm
  have k0:=hcl (g:=g) (by rw [hv];rfl) _ _ e0
  have k1:=hcl (g:=g) (by rw [hv];rfl) _ _ e1
  have k2:=hcl (g:=g) (by rw [hv];rfl) _ _ e2
  have k3:=hcl (g:=g) (by rw [hv];rfl) _ _ e3
  rw [add0] at k0 k1 k2 k3
  exact ⟨k0,k1,k2,k3⟩
theorem TRow.ne {w:World} {base b k:Nat} {v:Value} {ts:List Tk} {s:ByteArray} (h:TRow w base v ts) (hs:ScAt w b s k):b ∉ v.ownBlock.toList:=by
 intro hm
 obtain ⟨_,⟨hv,_⟩ | ⟨g,c,cur,rfl,h2,h3,_⟩⟩:=h
 ·rw [hv] at hm;simp [Value.ownBlock] at hm
 ·have hg:b = g:=by simpa [Value.ownBlock] using hm
  subst hg
  unfold ScAt at hs
  rw [hs] at h3
  simp at h3
theorem TRow.own_lt {w:World} {base:Nat} {v:Value} {ts:List Tk} (h:TRow w base v ts):∀ g ∈ v.ownBlock.toList,base ≤ g ∧ g < w.heap.size:=by
 intro g hg
 have:=World.ownsRow.lt h g (by simpa using hg)
 exact this
theorem TRow.nil (w:World) (base:Nat):TRow w base (.slice none 0 0) []:=World.ownsRow_nil _ _ _ _
theorem infoT:(Tryz.prog.info? 98).map (fun i=>(i.zero,i.size,i.bytes)) = some (some (.agg #[.int .i64 0,.string ⟨#[]⟩,.float .f64 0,.int .i64 0]),4,40):=by kernel_rfl
theorem app_tok (B g:Nat) (v:Value) (ts:List Tk) (t:Tk) (w:World) (h:TRow w B v ts) (hg:w.heap[g]? = some (.cells #[.int .i64 t.kind,.string ⟨t.text.toArray⟩,.float .f64 t.num,.int .i64 t.at'] 98 (0,0))) (hB:B ≤ w.heap.size) (hn:ts.length ≤ 100000) :
  ∃ v2 w2,(Builtin.append_ #[100,100] 100 #[v,.slice (some ⟨g,0,none⟩) 1 1]).run Tryz.prog w = .ok v2 w2 ∧ TRow w2 B v2 (ts ++ [t]) ∧ Turned v.ownBlock.toList w w2:=by
 obtain ⟨i0,hi,hz0,hz1,hz2⟩:=info_parts infoT
 obtain ⟨v2,w2,hrun,hown,hgr,_⟩:=run_append_own (P:=Tryz.prog) w B 100 100 98 i0 _ 4 40 Tryz.underlying100 hi hz0 hz1 hz2 rfl (by decide) v ts.length _ h ⟨g,0,none⟩ 1 1 (tkC t) rfl (fun j u hu=>by rw [add0,blk_cell hg];simpa [tkC] using hu) (by simp [tkC,Value.oneCell']) (by unfold maxLen;omega) (by omega) hB
 refine ⟨v2,w2,hrun,?_,⟨hgr.os,hgr.tape,hgr.output,hgr.size,fun b hb hn=>hgr.block b hb (fun e=>hn (by simp [← e]))⟩⟩
 unfold TRow
 rw [List.length_append]
 have e:tkCs (ts ++ [t]) = tkCs ts ++ tkC t:=by simp [tkCs]
 rw [e];exact hown
theorem tok_err {t:List UInt8} {e:Int} (h:tok t = .error e):e ≠ 0:=by
 unfold tok at h
 repeat' split at h
 all_goals (cases h;try decide)
structure At (L:List UInt8) (ts:List Tk) (k f:Nat):Prop where
 le:k ≤ L.length
 few:ts.length ≤ k
 fuel:L.length - k < f
 one:ts ++ (scanF f (L.drop k) k).1 = (scanL L).1
 two:(scanF f (L.drop k) k).2 = (scanL L).2
theorem At.start {L:List UInt8} (h:¬ 16384 < L.length):At L [] (skp false L) (L.length + 1):=by
 refine ⟨skp_le _ _,by simp,by omega,?_,?_⟩
 ·unfold scanL;rw [if_neg h];rfl
 ·unfold scanL;rw [if_neg h]
theorem At.end' {L:List UInt8} {ts:List Tk} {k f:Nat} (h:At L ts k f) (ht:L.drop k = []):(scanL L).1 = ts ++ [⟨0,[],0,k⟩] ∧ (scanL L).2 = (0,0):=by
 cases f with
 | zero=>have:=h.fuel;omega
 | succ f =>
  have e:scanF (f + 1) (L.drop k) k = ([⟨0,[],0,k⟩],0,0):=by rw [scanF,if_pos ht]
  rw [← h.one,← h.two,e];exact ⟨rfl,rfl⟩
theorem At.bad {L:List UInt8} {ts:List Tk} {k f:Nat} {e:Int} (h:At L ts k f) (h0:L.drop k ≠ []) (ht:tok (L.drop k) = .error e):(scanL L).2 = (k,e):=by
 cases f with
 | zero=>have:=h.fuel;omega
 | succ f =>
  rw [← h.two,scanF,if_neg h0,ht]
theorem At.next {L:List UInt8} {ts:List Tk} {k f:Nat} {kd:Int} {u:List UInt8} {x n:Nat} (h:At L ts k f) (h0:L.drop k ≠ []) (ht:tok (L.drop k) = .ok (kd,u,x,n)) :
  k + n ≤ L.length ∧ 1 ≤ n ∧ ∃ f',At L (ts ++ [⟨kd,u,x,k⟩]) (k + n + skp false (L.drop (k + n))) f':=by
 have hl:=tok_len h0 ht
 rw [List.length_drop] at hl
 simp only at hl
 have hk:=h.le
 refine ⟨by omega,hl.1,?_⟩
 cases f with
 | zero=>have:=h.fuel;omega
 | succ f =>
  have hs:=skp_le false (L.drop (k + n))
  rw [List.length_drop] at hs
  have h1:=h.one
  have h2:=h.two
  rw [scanF,if_neg h0,ht] at h1 h2
  simp only [List.drop_drop] at h1 h2
  refine ⟨f,by omega,by have:=h.few;simp;omega,by have:=h.fuel;omega,?_,?_⟩
  ·rw [← h1,List.append_assoc];rfl
  ·exact h2
abbrev tokO (t:Tk):Obj:=.cells #[.int .i64 t.kind,.string ⟨t.text.toArray⟩,.float .f64 t.num,.int .i64 t.at'] 98 (0,0)
theorem TRow.set {w:World} {base b k:Nat} {v:Value} {ts:List Tk} {s:ByteArray} (h:TRow w base v ts) (hs:ScAt w b s k) (i:Nat) (u:Value):TRow (w.setCell ⟨b,i,none⟩ u) base v ts:=
 trow_kept h (fun g o hg ho=>by
  rw [blk_other (fun e=>h.ne hs (by rw [← e];simpa using hg))];exact ho)
end Go.Proofs.YtmfpmandkhiknaaGreatDoor.lex
