/-
  Proved: what the small functions of package lex return (the four runs written by wip/bin/lex1.py). Conditions: as each theorem says.
  Proved: what rest, on and blanks of a scanner return. Conditions: as each theorem says.
  Proved: what copyCheck and WriteByte of a strings.Builder do, after the library's own proofs (Derived/Shelf/Strings/Builder1.lean), whose text of copyCheck differs by one panic. Conditions: as each theorem says.
  Proved: what lex.text returns (written by wip/bin/lex3.py). Conditions: as each theorem says.
  Proved: what a scanner's token returns. Conditions: as each theorem says.
  Proved: the ways of a scanner's token (written by wip/bin/lex5.py). Conditions: as each theorem says.
  Proved: the way of a scanner's token at a string (written by wip/bin/lex6.py). Conditions: as each theorem says.
  Proved: the way of a scanner's token at a number (written by wip/bin/lex7.py). Conditions: as each theorem says.
  Proved: the way of a scanner's token at a sign, and at none (written by wip/bin/lex8.py). Conditions: as each theorem says.
-/
import Derived.Test.YtmfpmandkhiknaaGreatDoorPu6
import Derived.Test.YtmfpmandkhiknaaGreatDoorPu3
import Derived.Test.YtmfpmandkhiknaaGreatDoorPu4
import Derived.Shelf.Strings.Builder1
import Derived.WalkKit
import Derived.WalkLawsBesides
import Derived.WalkSpells
import Derived.RegionTactic
import Derived.BigRegion
import Derived.ChangeAlike
import Derived.Deep.RegionWith
import Derived.Deep.CutRange
set_option linter.unusedVariables false
set_option linter.unusedSimpArgs false
namespace Go.Proofs.YtmfpmandkhiknaaGreatDoor.lex
open Go.RowKit
open flt (isD)
open num (list_len drop_cons)
set_option maxRecDepth 100000
def lineB (c:UInt8):Bool := !(c == 10)
theorem isDI (c:UInt8):isD c = true ↔ 48 ≤ (c.toNat:Int) ∧ (c.toNat:Int) ≤ 57:=by
 unfold isD
 rw [Bool.and_eq_true,decide_eq_true_iff,decide_eq_true_iff]
 omega
theorem all_u8 {p q:UInt8 → Bool} (h:∀ n:Fin 256,p (UInt8.ofNat n.val) = q (UInt8.ofNat n.val)) (c:UInt8):p c = q c:=by
 have:=h ⟨c.toNat,c.toNat_lt⟩
 simpa using this
def iB (c:Int):Bool:=c == 32 || c == 9 || c == 10 || c == 13
theorem blank_eq (c:UInt8):blankB c = iB (c.toNat:Int):=all_u8 (q:=fun c=>iB (c.toNat:Int)) (by decide +kernel) c
theorem blank1_any (c:UInt8) (w:World):Calls Tryz.prog 128 #[.int .u8 c.toNat] w fun e w'=>e = .returned (.bool (blankB c)) ∧ w = w':=by
 have HE:=Lib.hid (blank_eq c)
 unfold iB at HE
 cases h1:((c.toNat:Int) == 32) <;> cases h2:((c.toNat:Int) == 9) <;> cases h3:((c.toNat:Int) == 10) <;> cases h4:((c.toNat:Int) == 13) <;> rw [h1,h2,h3,h4] at HE <;>
 ·go_enter Tryz.func128,Tryz.ntmps128
  go_wp2_with fail
  go_ret
  exact ⟨by rw [HE.out];rfl,rfl⟩
theorem line_eq (c:UInt8):lineB c = ((c.toNat:Int) != 10):=all_u8 (q:=fun c=>((c.toNat:Int) != 10)) (by decide +kernel) c
theorem line1_any (c:UInt8) (w:World):Calls Tryz.prog 130 #[.int .u8 c.toNat] w fun e w'=>e = .returned (.bool (lineB c)) ∧ w = w':=by
 have HE:=Lib.hid (line_eq c)
 go_enter Tryz.func130,Tryz.ntmps130
 go_wp2_with fail
 go_ret
 exact ⟨by rw [HE.out];rfl,rfl⟩
theorem dig1_any (c:UInt8) (w:World):Calls Tryz.prog 134 #[.int .u8 c.toNat] w fun e w'=>e = .returned (.bool (isD c)) ∧ w = w':=by
 have HE:=Lib.hid (isDI c)
 by_cases h1:48 ≤ (c.toNat:Int)
 ·by_cases h2:(c.toNat:Int) ≤ 57
  ·have HI:Hid (isD c = true):=HE.out.2 ⟨h1,h2⟩
   have d1:decide (48 ≤ (c.toNat:Int)) = true:=decide_eq_true h1
   have d2:decide ((c.toNat:Int) ≤ 57) = true:=decide_eq_true h2
   clear h1 h2
   go_enter Tryz.func134,Tryz.ntmps134
   go_wp2_with fail
   go_ret
   exact ⟨by rw [HI.out];rfl,rfl⟩
  ·have HI:Hid (isD c = false):=by
    unfold Hid
    cases h:isD c with
    | false=>rfl
    | true=>exact absurd (HE.out.1 h).2 h2
   have d1:decide (48 ≤ (c.toNat:Int)) = true:=decide_eq_true h1
   have d2:decide ((c.toNat:Int) ≤ 57) = false:=decide_eq_false h2
   clear h1 h2
   go_enter Tryz.func134,Tryz.ntmps134
   go_wp2_with fail
   go_ret
   exact ⟨by rw [HI.out];rfl,rfl⟩
 ·have HI:Hid (isD c = false):=by
   unfold Hid
   cases h:isD c with
   | false=>rfl
   | true=>exact absurd (HE.out.1 h).1 h1
  have d1:decide (48 ≤ (c.toNat:Int)) = false:=decide_eq_false h1
  clear h1
  go_enter Tryz.func134,Tryz.ntmps134
  go_wp2_with fail
  go_ret
  exact ⟨by rw [HI.out];rfl,rfl⟩
def lB (c:Int):Bool:=c == 95 || (decide (97 ≤ bits .or .u8 c 32) && decide (bits .or .u8 c 32 ≤ 122))
theorem let_eq (c:UInt8):letB c = lB (c.toNat:Int):=all_u8 (q:=fun c=>lB (c.toNat:Int)) (by decide +kernel) c
theorem let1_any (c:UInt8) (w:World):Calls Tryz.prog 132 #[.int .u8 c.toNat] w fun e w'=>e = .returned (.bool (letB c)) ∧ w = w':=by
 have HE:=Lib.hid (let_eq c)
 unfold lB at HE
 obtain ⟨x,hx⟩:∃ x,bits .or .u8 (c.toNat:Int) 32 = x:=⟨_,rfl⟩
 rw [hx] at HE
 cases h1:((c.toNat:Int) == 95) <;> cases h2:decide (97 ≤ x) <;> cases h3:decide (x ≤ 122) <;> rw [h1,h2,h3] at HE <;>
 ·go_enter Tryz.func132,Tryz.ntmps132
  go_wp2_with fail
  go_ret
  exact ⟨by rw [HE.out];rfl,rfl⟩
theorem word1_any (c:UInt8) (w:World):Calls Tryz.prog 133 #[.int .u8 c.toNat] w fun e w'=>e = .returned (.bool (wordB c)) ∧ w = w':=by
 have H1:=Lib.hid (fun W=>let1_any c W)
 have H2:=Lib.hid (fun W=>dig1_any c W)
 have HE:Hid (wordB c = (letB c || isD c)):=rfl
 cases h1:letB c <;> rw [h1] at H1 HE <;>
 ·clear h1
  go_enter Tryz.func133,Tryz.ntmps133
  go_wp2_with (first | (go_at_call 132;refine (H1.out _).mono ?_;rintro e w1 ⟨rfl,rfl⟩) | (go_at_call 134;refine (H2.out _).mono ?_;rintro e w1 ⟨rfl,rfl⟩))
  go_ret
  exact ⟨by rw [HE.out];rfl,rfl⟩
theorem runB_yes {p:UInt8 → Bool} {c:UInt8} {l:List UInt8} (h:p c = true):runB p (c :: l) = runB p l + 1:=by simp [runB,h]
theorem runB_no {p:UInt8 → Bool} {c:UInt8} {l:List UInt8} (h:p c = false):runB p (c :: l) = 0:=by simp [runB,h]
theorem ret_i {a b:Int} (h:a = b):Ending.returned (.int .i64 a) = .returned (.int .i64 b):=by rw [h]
set_option maxHeartbeats 400000 in
theorem run_blank (s:ByteArray) (w:World) (hs:s.size ≤ 1000000000000000001) :
  Calls Tryz.prog 126 #[.string s,.func (.func 128) #[] #[]] w fun e w'=>e = .returned (.int .i64 (runB blankB s.data.toList)) ∧ w = w':=by
 go_enter Tryz.func126,Tryz.ntmps126
 go_wp2_with fail
 go_loop [5] (fun i=>∃ k:Nat,i = .int .i64 k ∧ k ≤ s.size ∧ runB blankB s.data.toList = k + runB blankB (s.data.toList.drop k)) (fun i=>s.size - (intOf i).toNat)
 case atStart=>exact ⟨0,rfl,by omega,by simp⟩
 case round =>
  obtain ⟨k,rfl,hk,hd⟩:=hrel
  have HD:=Lib.hid hd
  clear hd
  by_cases hlt:k < s.size
  ·have HC:=Lib.hid (drop_cons s k hlt)
   have HF:=Lib.hid (fun W=>blank1_any s[k] W)
   cases hc:blankB s[k]
   ·rw [hc] at HF
    have HN:Hid (runB blankB s.data.toList = k):=by
     unfold Hid;rw [HD.out,HC.out,runB_no hc];rfl
    clear hc
    go_wp2_with (go_at_call 128;refine (HF.out _).mono ?_;rintro e w1 ⟨rfl,rfl⟩)
    go_ret
    exact ⟨ret_i (by rw [HN.out]),rfl⟩
   ·rw [hc] at HF
    have HN:Hid (runB blankB s.data.toList = (k + 1) + runB blankB (s.data.toList.drop (k + 1))):=by
     unfold Hid;rw [HD.out,HC.out,runB_yes hc];omega
    clear hc
    go_wp2_with (go_at_call 128;refine (HF.out _).mono ?_;rintro e w1 ⟨rfl,rfl⟩)
    go_round
    case rel=>exact ⟨k + 1,by go_num,by omega,HN.out⟩
    case measure=>simp [intOf];omega
  ·have HN:Hid (runB blankB s.data.toList = k):=by
    unfold Hid;rw [HD.out,List.drop_eq_nil_of_le (by rw [list_len];omega)];rfl
   go_wp2_with fail
   go_ret
   exact ⟨ret_i (by rw [HN.out]),rfl⟩
set_option maxHeartbeats 400000 in
theorem run_line (s:ByteArray) (w:World) (hs:s.size ≤ 1000000000000000001) :
  Calls Tryz.prog 126 #[.string s,.func (.func 130) #[] #[]] w fun e w'=>e = .returned (.int .i64 (runB lineB s.data.toList)) ∧ w = w':=by
 go_enter Tryz.func126,Tryz.ntmps126
 go_wp2_with fail
 go_loop [5] (fun i=>∃ k:Nat,i = .int .i64 k ∧ k ≤ s.size ∧ runB lineB s.data.toList = k + runB lineB (s.data.toList.drop k)) (fun i=>s.size - (intOf i).toNat)
 case atStart=>exact ⟨0,rfl,by omega,by simp⟩
 case round =>
  obtain ⟨k,rfl,hk,hd⟩:=hrel
  have HD:=Lib.hid hd
  clear hd
  by_cases hlt:k < s.size
  ·have HC:=Lib.hid (drop_cons s k hlt)
   have HF:=Lib.hid (fun W=>line1_any s[k] W)
   cases hc:lineB s[k]
   ·rw [hc] at HF
    have HN:Hid (runB lineB s.data.toList = k):=by
     unfold Hid;rw [HD.out,HC.out,runB_no hc];rfl
    clear hc
    go_wp2_with (go_at_call 130;refine (HF.out _).mono ?_;rintro e w1 ⟨rfl,rfl⟩)
    go_ret
    exact ⟨ret_i (by rw [HN.out]),rfl⟩
   ·rw [hc] at HF
    have HN:Hid (runB lineB s.data.toList = (k + 1) + runB lineB (s.data.toList.drop (k + 1))):=by
     unfold Hid;rw [HD.out,HC.out,runB_yes hc];omega
    clear hc
    go_wp2_with (go_at_call 130;refine (HF.out _).mono ?_;rintro e w1 ⟨rfl,rfl⟩)
    go_round
    case rel=>exact ⟨k + 1,by go_num,by omega,HN.out⟩
    case measure=>simp [intOf];omega
  ·have HN:Hid (runB lineB s.data.toList = k):=by
    unfold Hid;rw [HD.out,List.drop_eq_nil_of_le (by rw [list_len];omega)];rfl
   go_wp2_with fail
   go_ret
   exact ⟨ret_i (by rw [HN.out]),rfl⟩
set_option maxHeartbeats 400000 in
theorem run_word (s:ByteArray) (w:World) (hs:s.size ≤ 1000000000000000001) :
  Calls Tryz.prog 126 #[.string s,.func (.func 133) #[] #[]] w fun e w'=>e = .returned (.int .i64 (runB wordB s.data.toList)) ∧ w = w':=by
 go_enter Tryz.func126,Tryz.ntmps126
 go_wp2_with fail
 go_loop [5] (fun i=>∃ k:Nat,i = .int .i64 k ∧ k ≤ s.size ∧ runB wordB s.data.toList = k + runB wordB (s.data.toList.drop k)) (fun i=>s.size - (intOf i).toNat)
 case atStart=>exact ⟨0,rfl,by omega,by simp⟩
 case round =>
  obtain ⟨k,rfl,hk,hd⟩:=hrel
  have HD:=Lib.hid hd
  clear hd
  by_cases hlt:k < s.size
  ·have HC:=Lib.hid (drop_cons s k hlt)
   have HF:=Lib.hid (fun W=>word1_any s[k] W)
   cases hc:wordB s[k]
   ·rw [hc] at HF
    have HN:Hid (runB wordB s.data.toList = k):=by
     unfold Hid;rw [HD.out,HC.out,runB_no hc];rfl
    clear hc
    go_wp2_with (go_at_call 133;refine (HF.out _).mono ?_;rintro e w1 ⟨rfl,rfl⟩)
    go_ret
    exact ⟨ret_i (by rw [HN.out]),rfl⟩
   ·rw [hc] at HF
    have HN:Hid (runB wordB s.data.toList = (k + 1) + runB wordB (s.data.toList.drop (k + 1))):=by
     unfold Hid;rw [HD.out,HC.out,runB_yes hc];omega
    clear hc
    go_wp2_with (go_at_call 133;refine (HF.out _).mono ?_;rintro e w1 ⟨rfl,rfl⟩)
    go_round
    case rel=>exact ⟨k + 1,by go_num,by omega,HN.out⟩
    case measure=>simp [intOf];omega
  ·have HN:Hid (runB wordB s.data.toList = k):=by
    unfold Hid;rw [HD.out,List.drop_eq_nil_of_le (by rw [list_len];omega)];rfl
   go_wp2_with fail
   go_ret
   exact ⟨ret_i (by rw [HN.out]),rfl⟩
set_option maxHeartbeats 400000 in
theorem run_dig (s:ByteArray) (w:World) (hs:s.size ≤ 1000000000000000001) :
  Calls Tryz.prog 126 #[.string s,.func (.func 134) #[] #[]] w fun e w'=>e = .returned (.int .i64 (runB isD s.data.toList)) ∧ w = w':=by
 go_enter Tryz.func126,Tryz.ntmps126
 go_wp2_with fail
 go_loop [5] (fun i=>∃ k:Nat,i = .int .i64 k ∧ k ≤ s.size ∧ runB isD s.data.toList = k + runB isD (s.data.toList.drop k)) (fun i=>s.size - (intOf i).toNat)
 case atStart=>exact ⟨0,rfl,by omega,by simp⟩
 case round =>
  obtain ⟨k,rfl,hk,hd⟩:=hrel
  have HD:=Lib.hid hd
  clear hd
  by_cases hlt:k < s.size
  ·have HC:=Lib.hid (drop_cons s k hlt)
   have HF:=Lib.hid (fun W=>dig1_any s[k] W)
   cases hc:isD s[k]
   ·rw [hc] at HF
    have HN:Hid (runB isD s.data.toList = k):=by
     unfold Hid;rw [HD.out,HC.out,runB_no hc];rfl
    clear hc
    go_wp2_with (go_at_call 134;refine (HF.out _).mono ?_;rintro e w1 ⟨rfl,rfl⟩)
    go_ret
    exact ⟨ret_i (by rw [HN.out]),rfl⟩
   ·rw [hc] at HF
    have HN:Hid (runB isD s.data.toList = (k + 1) + runB isD (s.data.toList.drop (k + 1))):=by
     unfold Hid;rw [HD.out,HC.out,runB_yes hc];omega
    clear hc
    go_wp2_with (go_at_call 134;refine (HF.out _).mono ?_;rintro e w1 ⟨rfl,rfl⟩)
    go_round
    case rel=>exact ⟨k + 1,by go_num,by omega,HN.out⟩
    case measure=>simp [intOf];omega
  ·have HN:Hid (runB isD s.data.toList = k):=by
    unfold Hid;rw [HD.out,List.drop_eq_nil_of_le (by rw [list_len];omega)];rfl
   go_wp2_with fail
   go_ret
   exact ⟨ret_i (by rw [HN.out]),rfl⟩
end Go.Proofs.YtmfpmandkhiknaaGreatDoor.lex
namespace Go.Proofs.YtmfpmandkhiknaaGreatDoor.lex
open Go.RowKit
open flt (isD)
open heap
open num (list_len drop_cons ret_str)
set_option maxRecDepth 100000
abbrev scV (s:ByteArray) (a:Int):Value:=.agg #[.string s,.int .i64 a]
theorem rest_any (s:ByteArray) (a:Nat) (w:World) (ha:a ≤ s.size) (hs:s.size ≤ 1000000000000000001) :
  Calls Tryz.prog 127 #[scV s a] w fun e w'=>e = .returned (.string (s.extract a s.size)) ∧ Below w.heap.size w w':=by
 go_enter Tryz.func127,Tryz.ntmps127
 go_wp2_with fail
 go_ret
 exact ⟨rfl,(Below.refl _ _).alloc (Nat.le_refl _) _⟩
theorem on_any (s:ByteArray) (a n:Nat) (w:World) (ha:a + n ≤ 2000000000000000001) :
  Calls Tryz.prog 131 #[scV s a,.int .i64 n] w fun e w'=>e = .returned (scV s ((a + n:Nat):Int)) ∧ Below w.heap.size w w':=by
 go_enter Tryz.func131,Tryz.ntmps131
 go_wp2_with fail
 refine bodyPost_ret (v:=scV s ((a + n:Nat):Int)) (by simp [results,Tryz.results131,go_sem]) rfl ⟨rfl,?_⟩
 exact ((Below.refl _ _).alloc (Nat.le_refl _) _).alloc (by simp) _
theorem skp_run (t:List UInt8):skp false t = runB blankB t + skp false (t.drop (runB blankB t)):=by
 induction t with
 | nil=>rfl
 | cons c r ih =>
  cases h:blankB c
  ·rw [runB_no h];simp
  ·rw [runB_yes h,skp,if_pos h,List.drop_succ_cons];omega
theorem skp_line (r:List UInt8):skp true r = runB lineB r + skp false (r.drop (runB lineB r)):=by
 induction r with
 | nil=>rfl
 | cons c r ih =>
  by_cases h:c = 10
  ·subst h
   rw [runB_no (by decide),skp,if_pos rfl]
   simp [skp,show blankB 10 = true by decide]
  ·rw [runB_yes (by unfold lineB;simp [h]),skp,if_neg h,List.drop_succ_cons];omega
theorem skp_hash (r:List UInt8):skp false (35 :: r) = runB lineB (35 :: r) + skp false ((35 :: r).drop (runB lineB (35 :: r))):=by
 rw [runB_yes (by decide),List.drop_succ_cons,skp,if_neg (by decide),if_pos rfl,skp_line];omega
theorem skp_zero {t:List UInt8} (h1:runB blankB t = 0) (h2:Lib.hasPrefix t [35] = false):skp false t = 0:=by
 cases t with
 | nil=>rfl
 | cons c r =>
  have hb:blankB c = false:=by
   cases h:blankB c with
   | false=>rfl
   | true=>rw [runB_yes h] at h1;omega
  have hc:c ≠ 35:=by
   intro e;subst e
   simp [Lib.hasPrefix,List.isPrefixOf] at h2
  rw [skp,if_neg (by rw [hb];exact Bool.false_ne_true),if_neg hc]
theorem skp_pre {t:List UInt8} (h:Lib.hasPrefix t [35] = true):skp false t = runB lineB t + skp false (t.drop (runB lineB t)) ∧ 1 ≤ runB lineB t:=by
 cases t with
 | nil=>exact absurd h (by decide)
 | cons c r =>
  have hc:c = 35:=by
   unfold Lib.hasPrefix at h
   rw [List.isPrefixOf] at h
   have:=(Bool.and_eq_true_iff.1 h).1
   exact (beq_iff_eq.1 this).symm
  subst hc
  exact ⟨skp_hash r,by rw [runB_yes (by decide)];omega⟩
theorem ext_list (s:ByteArray) (a:Nat):(s.extract a s.size).data.toList = s.data.toList.drop a:=by
 rw [ByteArray.data_extract,Array.toList_extract,List.extract_eq_take_drop]
 rw [List.take_of_length_le]
 rw [List.length_drop,Array.length_toList]
 exact Nat.le_refl _
theorem ext_size (s:ByteArray) (a:Nat) (h:a ≤ s.size):(s.extract a s.size).size = s.size - a:=by
 rw [ByteArray.size_extract];omega
theorem ext_ext (s:ByteArray) (a n:Nat) (h:a + n ≤ s.size):(s.extract a s.size).extract n (s.size - a) = s.extract (a + n) s.size:=by
 apply ByteArray.ext
 apply Array.toList_inj.1
 have e1:=ext_list (s.extract a s.size) n
 rw [ext_size s a (by omega)] at e1
 rw [e1,ext_list,ext_list,List.drop_drop]
def cellN (v:Option Value):Nat:=match v with
 | some (.int _ n)=>n.toNat
 | _=>0
def ScAt (w:World) (b:Nat) (s:ByteArray) (k:Nat):Prop:=w.heap[b]? = some (.cells #[.string s,.int .i64 k] 150 (0,0))
theorem ScAt.cells {w:World} {b k:Nat} {s:ByteArray} (h:ScAt w b s k):w.cell? ⟨b,0,none⟩ = some (.string s) ∧ w.cell? ⟨b,1,none⟩ = some (.int .i64 k) ∧ w.frozen? ⟨b,0,none⟩ = false ∧ w.frozen? ⟨b,1,none⟩ = false ∧ b < w.heap.size:=
 ⟨by rw [blk_cell h];rfl,by rw [blk_cell h];rfl,blk_free h 0,blk_free h 1,blk_lt h⟩
theorem ScAt.set2 {w:World} {b k0:Nat} {s0:ByteArray} (h:ScAt w b s0 k0) (s:ByteArray) (k:Nat):ScAt ((w.setCell ⟨b,0,none⟩ (.string s)).setCell ⟨b,1,none⟩ (.int .i64 k)) b s k:=blk_set (blk_set h 0 (.string s)) 1 (.int .i64 k)
theorem ScAt.other {w:World} {b c k:Nat} {s:ByteArray} (h:ScAt w b s k) (hn:b ≠ c) (u v:Value):ScAt ((w.setCell ⟨c,0,none⟩ u).setCell ⟨c,1,none⟩ v) b s k:=by
 unfold ScAt;rw [blk_other hn,blk_other hn];exact h
theorem ScAt.below {w w':World} {b k:Nat} {s:ByteArray} (h:ScAt w b s k) (hb:Below w.heap.size w w'):ScAt w' b s k:=blk_below h hb
def BlAt (w:World) (s:ByteArray) (a:Nat) (wr:World) (k:Nat):Prop:=
 ScAt wr w.heap.size s k ∧ ScAt wr (w.heap.size + 1) ⟨#[]⟩ 0 ∧ k ≤ s.size ∧ a + skp false (s.data.toList.drop a) = k + skp false (s.data.toList.drop k) ∧ Below w.heap.size w wr
set_option maxHeartbeats 1000000 in
theorem blanks_any (s:ByteArray) (a:Nat) (w:World) (ha:a ≤ s.size) (hs:s.size ≤ 1000000000000000001) :
  Calls Tryz.prog 95 #[scV s a] w fun e w'=>e = .returned (scV s ((a + skp false (s.data.toList.drop a):Nat):Int)) ∧ Below w.heap.size w w':=by
 have H0:Hid (BlAt w s a ((w.alloc (.cells #[.string s,.int .i64 a] 150)).alloc (.cells #[.string ⟨#[]⟩,.int .i64 0] 150)) a):=by
  refine ⟨blk_old (blk_new _ _) _,?_,ha,rfl,((Below.refl _ _).alloc (Nat.le_refl _) _).alloc (by simp) _⟩
  have:=blk_new (w.alloc (.cells #[.string s,.int .i64 a] 150)) (.cells #[.string ⟨#[]⟩,.int .i64 0] 150)
  simpa [ScAt] using this
 go_enter Tryz.func95,Tryz.ntmps95
 go_wp2_with fail
 go_loopw [3] (fun _ wr=>∃ k,BlAt w s a wr k) (fun _ wr=>s.size - cellN (wr.cell? ⟨w.heap.size,1,none⟩))
 case atStart=>exact ⟨a,H0.out⟩
 case round =>
  obtain ⟨k,hsc,hrs,hk,heq,hbl⟩:=hrel
  generalize hB:w.heap.size = B at *
  obtain ⟨c0,c1,f0,f1,hlt⟩:=hsc.cells
  have HSC:=Lib.hid hsc
  have HRS:=Lib.hid hrs
  have HEQ:=Lib.hid heq
  have HBL:=Lib.hid hbl
  have HB:=Lib.hid hB
  clear hsc hrs heq hbl hB
  have hsz:=ext_size s k hk
  have hls:=ext_list s k
  have hlen:(s.data.toList.drop k).length = s.size - k:=by rw [List.length_drop,list_len]
  have HR1:Hid (∀ W,Calls Tryz.prog 126 #[.string (s.extract k s.size),.func (.func 128) #[] #[]] W fun e w'=>e = .returned (.int .i64 (runB blankB (s.data.toList.drop k))) ∧ W = w'):=fun W=>by
   have:=run_blank (s.extract k s.size) W (by omega)
   rw [hls] at this;exact this
  have hn:=runB_le blankB (s.data.toList.drop k)
  rw [hlen] at hn
  have HSK:=Lib.hid (skp_run (s.data.toList.drop k))
  have HZ:=Lib.hid (fun h => @skp_zero (s.data.toList.drop k) h)
  rw [List.drop_drop] at HSK
  generalize hnn:runB blankB (s.data.toList.drop k) = n at *
  have HNN:=Lib.hid hnn
  clear hnn
  have hex:=ext_ext s k n (by omega)
  have hHP:∀ W,Calls Tryz.prog 129 #[.string (s.extract (k + n) s.size),.string ⟨#[35]⟩] W fun e w'=>e = .returned (.bool (Lib.hasPrefix (s.data.toList.drop (k + n)) [35])) ∧ W = w':=fun W=>by
   have:=Tryz.strings_HasPrefix (s.extract (k + n) s.size) ⟨#[35]⟩ W
   rw [show (s.extract (k + n) s.size).data.toList = s.data.toList.drop (k + n) from ext_list s (k + n)] at this
   exact this.mono fun e w' h=>⟨h.1,h.2.symm⟩
  have HHP:=Lib.hid hHP
  clear hHP
  have hkn:k + n ≤ s.size:=by omega
  have HR2:Hid (∀ W,Calls Tryz.prog 126 #[.string (s.extract (k + n) s.size),.func (.func 130) #[] #[]] W fun e w'=>e = .returned (.int .i64 (runB lineB (s.data.toList.drop (k + n)))) ∧ W = w'):=fun W=>by
   have:=run_line (s.extract (k + n) s.size) W (by rw [ext_size s (k + n) hkn];omega)
   rw [ext_list s (k + n)] at this;exact this
  have hlen2:(s.data.toList.drop (k + n)).length = s.size - (k + n):=by rw [List.length_drop,list_len]
  have hm:=runB_le lineB (s.data.toList.drop (k + n))
  rw [hlen2] at hm
  have hhash:=fun h => @skp_pre (s.data.toList.drop (k + n)) h
  rw [List.drop_drop] at hhash
  have HHS:=Lib.hid hhash
  clear hhash hls hlen hlen2
  generalize runB lineB (s.data.toList.drop (k + n)) = m at *
  go_wp2_with fail
  (with_reducible refine (rest_any _ _ _ hk hs).mono ?_);rintro e w1 ⟨rfl,hb1⟩
  have HSC1:=Lib.hid (HSC.out.below hb1)
  have HRS1:=Lib.hid (HRS.out.below hb1)
  have HBL1:=Lib.hid (HBL.out.trans (hb1.mono (Nat.le_of_lt hlt)))
  clear hb1 c0 c1 f0 f1 hlt
  obtain ⟨c0,c1,f0,f1,hlt⟩:=HSC1.out.cells
  go_wp2_with (go_at_call 126;refine (HR1.out _).mono ?_;rintro e w' ⟨rfl,rfl⟩)
  (with_reducible refine (rest_any _ _ _ hk hs).mono ?_);rintro e w2 ⟨rfl,hb2⟩
  have HSC2:=Lib.hid (HSC1.out.below hb2)
  have HRS2:=Lib.hid (HRS1.out.below hb2)
  have HBL2:=Lib.hid (HBL1.out.trans (hb2.mono (Nat.le_of_lt hlt)))
  clear hb2 c0 c1 f0 f1 hlt
  obtain ⟨c0,c1,f0,f1,hlt⟩:=HSC2.out.cells
  cases hh:Lib.hasPrefix (s.data.toList.drop (k + n)) [35]
  ·rw [hh] at HHP
   clear HHS HR2
   by_cases h0:n = 0
   ·have h00:((n:Int) == 0) = true:=beq_iff_eq.2 (by omega)
    have HE:Hid (a + skp false (s.data.toList.drop a) = k):=by
     unfold Hid
     rw [HEQ.out,HZ.out h0 (by have:=hh;rw [h0,Nat.add_zero] at this;exact this)];rfl
    obtain ⟨d0,d1,g0,g1,hlt2⟩:=HRS2.out.cells
    clear hh h0
    go_wp2_with (go_at_call 129;refine (HHP.out _).mono ?_;rintro e w' ⟨rfl,rfl⟩)
    have hres:=HRS2.out.set2 s k
    obtain ⟨e0,e1,_⟩:=hres.cells
    refine bodyPost_ret (v:=scV s (k:Int)) (by simp [results,Tryz.results95,go_sem,e0,e1]) rfl ⟨by rw [HE.out],?_⟩
    rw [HB.out]
    exact (HBL2.out.setCell (by simp) _).setCell (by simp) _
   ·have h00:((n:Int) == 0) = false:=beq_eq_false_iff_ne.2 (by omega)
    have hn1:1 ≤ n:=by omega
    clear hh h0
    go_wp2_with (go_at_call 129;refine (HHP.out _).mono ?_;rintro e w' ⟨rfl,rfl⟩)
    (with_reducible refine (on_any _ _ _ _ (by omega)).mono ?_);rintro e w3 ⟨rfl,hb3⟩
    have HSC3:=Lib.hid (HSC2.out.below hb3)
    have HRS3:=Lib.hid (HRS2.out.below hb3)
    have HBL3:=Lib.hid (HBL2.out.trans (hb3.mono (Nat.le_of_lt hlt)))
    clear hb3 c0 c1 f0 f1 hlt
    obtain ⟨c0,c1,f0,f1,hlt⟩:=HSC3.out.cells
    have HN:Hid (BlAt w s a ((w3.setCell ⟨B,0,none⟩ (.string s)).setCell ⟨B,1,none⟩ (.int .i64 ((k + n:Nat):Int))) (k + n)):=by
     unfold BlAt Hid
     rw [HB.out]
     refine ⟨HSC3.out.set2 s (k + n),HRS3.out.other (by omega) _ _,hkn,?_,(HBL3.out.setCell (by simp) _).setCell (by simp) _⟩
     rw [HEQ.out,HSK.out];omega
    have HME:Hid (s.size - cellN (((w3.setCell ⟨B,0,none⟩ (.string s)).setCell ⟨B,1,none⟩ (.int .i64 ((k + n:Nat):Int))).cell? ⟨B,1,none⟩) < s.size - cellN (wr.cell? ⟨B,1,none⟩)):=by
     unfold Hid
     have e1:=(HSC3.out.set2 s (k + n)).cells.2.1
     rw [e1,HSC.out.cells.2.1]
     show s.size - (k + n) < s.size - k
     omega
    go_wp2_with fail
    go_roundw
    case rel=>exact ⟨k + n,HN.out⟩
    case measure=>exact HME.out
  ·rw [hh] at HHP
   obtain ⟨hs1,hs2⟩:=HHS.out hh
   have HS1:=Lib.hid hs1
   clear HHS hh hs1
   go_wp2_with (go_at_call 129;refine (HHP.out _).mono ?_;rintro e w' ⟨rfl,rfl⟩)
   (with_reducible refine (rest_any _ _ _ hk hs).mono ?_);rintro e w3 ⟨rfl,hb3⟩
   have HSC3:=Lib.hid (HSC2.out.below hb3)
   have HRS3:=Lib.hid (HRS2.out.below hb3)
   have HBL3:=Lib.hid (HBL2.out.trans (hb3.mono (Nat.le_of_lt hlt)))
   clear hb3 c0 c1 f0 f1 hlt
   obtain ⟨c0,c1,f0,f1,hlt⟩:=HSC3.out.cells
   have h00:((n:Int) + (m:Int) == 0) = false:=beq_eq_false_iff_ne.2 (by omega)
   go_wp2_with (go_at_call 126;refine (HR2.out _).mono ?_;rintro e w' ⟨rfl,rfl⟩)
   have hon:=fun W=>on_any s k (n + m) W (by omega)
   have e5:(((n + m:Nat):Int)) = (n:Int) + m:=by omega
   rw [e5] at hon
   refine (hon _).mono ?_;rintro e w4 ⟨rfl,hb4⟩
   have HSC4:=Lib.hid (HSC3.out.below hb4)
   have HRS4:=Lib.hid (HRS3.out.below hb4)
   have HBL4:=Lib.hid (HBL3.out.trans (hb4.mono (Nat.le_of_lt hlt)))
   clear hb4 c0 c1 f0 f1 hlt hon e5
   obtain ⟨c0,c1,f0,f1,hlt⟩:=HSC4.out.cells
   have HN:Hid (BlAt w s a ((w4.setCell ⟨B,0,none⟩ (.string s)).setCell ⟨B,1,none⟩ (.int .i64 ((k + (n + m):Nat):Int))) (k + (n + m))):=by
    unfold BlAt Hid
    rw [HB.out]
    refine ⟨HSC4.out.set2 s (k + (n + m)),HRS4.out.other (by omega) _ _,by omega,?_,(HBL4.out.setCell (by simp) _).setCell (by simp) _⟩
    rw [HEQ.out,HSK.out,HS1.out,Nat.add_assoc k n m];omega
   have HME:Hid (s.size - cellN (((w4.setCell ⟨B,0,none⟩ (.string s)).setCell ⟨B,1,none⟩ (.int .i64 ((k + (n + m):Nat):Int))).cell? ⟨B,1,none⟩) < s.size - cellN (wr.cell? ⟨B,1,none⟩)):=by
    unfold Hid
    have e1:=(HSC4.out.set2 s (k + (n + m))).cells.2.1
    rw [e1,HSC.out.cells.2.1]
    show s.size - (k + (n + m)) < s.size - k
    omega
   go_wp2_with fail
   go_roundw
   case rel=>exact ⟨k + (n + m),HN.out⟩
   case measure=>exact HME.out
end Go.Proofs.YtmfpmandkhiknaaGreatDoor.lex
namespace Go.Proofs.YtmfpmandkhiknaaGreatDoor.build
open Go.RowKit Go.Shelf
theorem sizeB:(Tryz.prog.info? 117).map (·.size) = some 2:=by kernel_rfl
theorem liesB:liesAt Tryz.prog Tryz.prog.depth 117 (2 / Tryz.prog.cellsOf 117) 0 117 1 = true:=by kernel_rfl
theorem infoB:(Tryz.prog.info? 5).map (fun i=>(i.zero,i.size,i.bytes)) = some (some (.int .u8 0),1,1):=by kernel_rfl
set_option maxHeartbeats 1000000 in
set_option maxRecDepth 100000 in
theorem copyCheck_used (b:Nat) (w:World) (h0:w.cell? ⟨b,0,none⟩ = some (.pointer (some ⟨b,0,none⟩))) :
  Calls Tryz.prog 93 #[.pointer (some ⟨b,0,none⟩)] w fun e w'=>e = .returned (.tuple #[]) ∧ w' = w:=by
 obtain ⟨j,hj,_⟩:=Option.map_eq_some_iff.1 sizeB
 go_enter Tryz.func93,Tryz.ntmps93
 go_wp2
 rw [Lib.run_neq_ptr_same w _ Tryz.underlying115 hj]
 go_wp2
 go_end0
 exact ⟨rfl,rfl⟩
set_option maxHeartbeats 1000000 in
set_option maxRecDepth 100000 in
theorem copyCheck_fresh (b:Nat) (w:World) (h0:w.cell? ⟨b,0,none⟩ = some (.pointer none)) (hsh:w.shape? b = some (117,2)) (hfz:w.frozen? ⟨b,0,none⟩ = false) :
  Calls Tryz.prog 93 #[.pointer (some ⟨b,0,none⟩)] w fun e w'=>e = .returned (.tuple #[]) ∧ w' = w.setCell ⟨b,0,none⟩ (.pointer (some ⟨b,0,none⟩)):=by
 obtain ⟨j,hj,hjs⟩:=Option.map_eq_some_iff.1 sizeB
 go_enter Tryz.func93,Tryz.ntmps93
 go_wp2
 rw [Lib.run_to_unsafe w ⟨b,0,none⟩ Tryz.underlying115 Tryz.underlying168 hj (by rw [hjs];decide) hsh (Nat.zero_lt_succ 1)]
 simp only [Result.andThen]
 rw [Oper.upon_value]
 go_wp2
 rw [run_callFunc_extern Tryz.func124 (by kernel_rfl) (by kernel_rfl) (by kernel_rfl) (e:=Extern.AbiNoEscape.same) (by kernel_rfl)]
 rw [Lib.run_noEscape]
 simp only [Result.andThen]
 rw [Oper.upon_value]
 go_wp2
 rw [Lib.run_from_unsafe w ⟨b,0,none⟩ Tryz.underlying168 Tryz.underlying115 hj hsh liesB]
 simp only [Result.andThen]
 rw [Oper.upon_value]
 go_wp2
 go_end0
 exact ⟨rfl,rfl⟩
theorem copyCheck_any (B b:Nat) (bs:List Value) (w:World) (h:Lib.IsBuilder 117 5 B b bs w) :
  Calls Tryz.prog 93 #[.pointer (some ⟨b,0,none⟩)] w fun e w'=>e = .returned (.tuple #[]) ∧ (Lib.BuilderAt 117 5 B b (.pointer (some ⟨b,0,none⟩)) bs w' ∧ Below B w w'):=by
 rcases h with h | h
 ·refine (copyCheck_fresh b w h.cell0 h.shape h.frozen0).mono ?_
  rintro e w' ⟨rfl,rfl⟩
  exact ⟨rfl,h.used _,(Below.refl B w).setCell (p:=⟨b,0,none⟩) h.1 _⟩
 ·refine (copyCheck_used b w h.cell0).mono ?_
  rintro e w' ⟨rfl,rfl⟩
  exact ⟨rfl,h,Below.refl B _⟩
set_option maxHeartbeats 2000000 in
set_option maxRecDepth 100000 in
theorem WriteByte_any (B b:Nat) (bs:List Value) (c:Int) (w:World) (h:Lib.IsBuilder 117 5 B b bs w) (hlen:bs.length + 1 ≤ 140737488355328) (hBw:B ≤ w.heap.size) :
  Calls Tryz.prog 176 #[.pointer (some ⟨b,0,none⟩),.int .u8 c] w fun e w'=>e = .returned .nilIface ∧ (Lib.BuilderAt 117 5 B b (.pointer (some ⟨b,0,none⟩)) (bs ++ [.int .u8 c]) w' ∧ Below B w w'):=by
 obtain ⟨i0,hi,hz0,hz1,hz2⟩:=info_parts infoB
 go_enter Tryz.func176,Tryz.ntmps176
 go_wp2_with (go_at_call 93;refine (copyCheck_any B b bs _ h).mono ?_)
 rintro e w1 ⟨rfl,h1,hb1⟩
 obtain ⟨hB,v,hbk,hown,hne⟩:=h1
 have c0:w1.cell? ⟨b,0,none⟩ = some (.pointer (some ⟨b,0,none⟩)):=by rw [Lib.cell_of_heap hbk];rfl
 have c1:w1.cell? ⟨b,1,none⟩ = some v:=by rw [Lib.cell_of_heap hbk];rfl
 go_wp2_with (at_builtin;refine wpList_append_own _ rfl _ _ 58 rfl B 5 i0 (.int .u8 0) 1 1 Tryz.underlying58 hi hz0 hz1 hz2 rfl (by decide) _ _ _ rfl (hown.alloc _) ⟨w1.heap.size,0,none⟩ 1 1 [.int .u8 c] rfl rfl ?c1 ?c2 ?c3 ?c4 ?c5 ?_)
 case c1 =>
  intro j u hj
  match j,hj with
  | 0,hj=>simp at hj;subst hj;simp [Addr.add]
 case c2=>intro u hu;simp at hu;subst hu;rfl
 case c3=>unfold maxLen;omega
 case c4=>omega
 case c5=>have:=hb1.size;simp;omega
 intro v' w2 hown' hgrow _
 have hlt:b < w1.heap.size:=by
  rcases Nat.lt_or_ge b w1.heap.size with h' | h'
  ·exact h'
  ·simp [Array.getElem?_eq_none h'] at hbk
 have hb2:w2.heap[b]? = some (.cells #[.pointer (some ⟨b,0,none⟩),v] 117 (0,0)):=by
  rw [hgrow.block b (by simp;omega) (fun e=>hne e.symm),Lib.alloc_old w1 _ b hlt]
  exact hbk
 have d0:w2.cell? ⟨b,0,none⟩ = some (.pointer (some ⟨b,0,none⟩)):=by rw [Lib.cell_of_heap hb2];rfl
 have d1:w2.cell? ⟨b,1,none⟩ = some v:=by rw [Lib.cell_of_heap hb2];rfl
 have f1:w2.frozen? ⟨b,1,none⟩ = false:=Lib.frozen_of_heap hb2 1
 obtain ⟨g,cap,rfl⟩:∃ g cap,v' = .slice (some ⟨g,0,none⟩) (bs.length + 1) cap:=by
  rcases hown'.2 with ⟨_,h0⟩ | ⟨g,cap,cur,hv,_⟩
  ·omega
  ·exact ⟨g,cap,hv⟩
 go_wp2
 go_ret
 refine ⟨rfl,?_,?_⟩
 ·exact Lib.BuilderAt.put (T:=117) (e:=5) hB hb2 (bs':=bs ++ [.int .u8 c]) (by simpa using hown') (by decide)
 ·exact ((hb1.alloc (by have:=hb1.size;omega) _).grown hgrow (by have:=hb1.size;simp;omega) (fun k hk=>(hown.lt k hk).1)).setCell (p:=⟨b,1,none⟩) hB _
end Go.Proofs.YtmfpmandkhiknaaGreatDoor.build
namespace Go.Proofs.YtmfpmandkhiknaaGreatDoor.lex
open Go.RowKit
open flt (isD)
open heap
open num (list_len drop_cons ret_pair)
set_option maxRecDepth 100000
abbrev IsB (b:Nat) (acc:List UInt8) (w:World):Prop:=Lib.IsBuilder 117 5 b b (Lib.byteCells acc) w
def textR (l:List UInt8):List UInt8 × Nat:=match qtS false (l.drop 1) with
 | none=>([],0)
 | some x=>if 1024 < x.1.length then ([],0) else (x.1,x.2 + 1)
def TxAt (s:ByteArray) (i:Nat) (acc:List UInt8):Prop:=1 ≤ i ∧ acc.length ≤ i ∧ qtS false (s.data.toList.drop 1) = (qtS false (s.data.toList.drop i)).map fun x=>(acc ++ x.1,i - 1 + x.2)
theorem TxAt.quote {s:ByteArray} {i:Nat} {acc:List UInt8} (h:TxAt s i acc) (hi:i < s.size) (hc:s[i] = 34):textR s.data.toList = if 1024 < acc.length then ([],0) else (acc,i + 1):=by
 unfold textR
 rw [h.2.2,drop_cons s i hi,hc]
 have e:qtS false (34 :: s.data.toList.drop (i + 1)) = some ([],1):=by simp [qtS]
 rw [e]
 have:=h.1
 simp only [Option.map_some,List.append_nil]
 split
 ·rfl
 ·rw [show i - 1 + 1 + 1 = i + 1 by omega]
theorem TxAt.nil' {s:ByteArray} {i:Nat} {acc:List UInt8} (h:TxAt s i acc) (hn:qtS false (s.data.toList.drop i) = none):textR s.data.toList = ([],0):=by
 unfold textR
 rw [h.2.2,hn];rfl
theorem TxAt.low {s:ByteArray} {i:Nat} {acc:List UInt8} (h:TxAt s i acc) (hi:i < s.size) (h1:s[i] ≠ 34) (hc:s[i].toNat < 32):textR s.data.toList = ([],0):=by
 refine h.nil' ?_
 rw [drop_cons s i hi,qtS,if_neg h1,if_pos hc]
theorem TxAt.over {s:ByteArray} {i:Nat} {acc:List UInt8} (h:TxAt s i acc) (hi:s.size ≤ i):textR s.data.toList = ([],0):=by
 refine h.nil' ?_
 rw [List.drop_eq_nil_of_le (by rw [list_len];exact hi)];rfl
theorem TxAt.step {s:ByteArray} {i:Nat} {acc:List UInt8} (h:TxAt s i acc) (hi:i < s.size) (h1:s[i] ≠ 34) (hc:¬ s[i].toNat < 32) (h2:s[i] ≠ 92):TxAt s (i + 1) (acc ++ [s[i]]):=by
 refine ⟨by omega,by have:=h.2.1;simp;omega,?_⟩
 rw [h.2.2,drop_cons s i hi,qtS,if_neg h1,if_neg hc,if_neg h2,Option.map_map]
 congr 1
 funext x
 have:=h.1
 simp only [Function.comp,List.append_assoc,List.singleton_append,Prod.mk.injEq,true_and]
 omega
theorem TxAt.end' {s:ByteArray} {i:Nat} {acc:List UInt8} (h:TxAt s i acc) (hi:i < s.size) (h2:s[i] = 92) (he:s.size ≤ i + 1):textR s.data.toList = ([],0):=by
 refine h.nil' ?_
 rw [drop_cons s i hi,h2,List.drop_eq_nil_of_le (by rw [list_len];exact he)]
 decide
theorem TxAt.esc {s:ByteArray} {i:Nat} {acc:List UInt8} {e:UInt8} (h:TxAt s i acc) (hi:i + 1 < s.size) (h2:s[i] = 92) (he:escB s[i + 1] = some e):TxAt s (i + 2) (acc ++ [e]):=by
 refine ⟨by omega,by have:=h.2.1;simp;omega,?_⟩
 rw [h.2.2,drop_cons s i (by omega),h2,drop_cons s (i + 1) hi]
 have e1:∀ r:List UInt8,qtS false (92 :: s[i + 1] :: r) = (qtS false r).map fun x=>(e :: x.1,x.2 + 2):=by
  intro r
  rw [qtS,if_neg (by decide),if_neg (by decide),if_pos rfl,qtS,he]
  simp only [Option.map_map]
  rfl
 rw [e1,Option.map_map]
 congr 1
 funext x
 have:=h.1
 simp only [Function.comp,List.append_assoc,List.singleton_append,Prod.mk.injEq,true_and]
 omega
theorem TxAt.noesc {s:ByteArray} {i:Nat} {acc:List UInt8} (h:TxAt s i acc) (hi:i + 1 < s.size) (h2:s[i] = 92) (he:escB s[i + 1] = none):textR s.data.toList = ([],0):=by
 refine h.nil' ?_
 rw [drop_cons s i (by omega),h2,drop_cons s (i + 1) hi,qtS,if_neg (by decide),if_neg (by decide),if_pos rfl,qtS,he]
 rfl
theorem esc_cases (d:UInt8):(escB d = some 34 ∧ Lib.indexByte [34,92,110,116] d = 0) ∨ (escB d = some 92 ∧ Lib.indexByte [34,92,110,116] d = 1) ∨ (escB d = some 10 ∧ Lib.indexByte [34,92,110,116] d = 2) ∨ (escB d = some 9 ∧ Lib.indexByte [34,92,110,116] d = 3) ∨ (escB d = none ∧ Lib.indexByte [34,92,110,116] d = -1):=by
 have h:∀ n:Fin 256,(escB (UInt8.ofNat n.val) = some 34 ∧ Lib.indexByte [34,92,110,116] (UInt8.ofNat n.val) = 0) ∨ (escB (UInt8.ofNat n.val) = some 92 ∧ Lib.indexByte [34,92,110,116] (UInt8.ofNat n.val) = 1) ∨ (escB (UInt8.ofNat n.val) = some 10 ∧ Lib.indexByte [34,92,110,116] (UInt8.ofNat n.val) = 2) ∨ (escB (UInt8.ofNat n.val) = some 9 ∧ Lib.indexByte [34,92,110,116] (UInt8.ofNat n.val) = 3) ∨ (escB (UInt8.ofNat n.val) = none ∧ Lib.indexByte [34,92,110,116] (UInt8.ofNat n.val) = -1):=by decide +kernel
 have:=h ⟨d.toNat,d.toNat_lt⟩
 simpa using this
theorem u8_ne {c:UInt8} {n:Nat} (hn:n < 256) (h:((c.toNat:Int) == (n:Int)) = false):c ≠ UInt8.ofNat n:=by
 intro e;subst e
 have:(UInt8.ofNat n).toNat = n:=by simp;omega
 rw [this] at h;simp at h
theorem u8_eq {c:UInt8} {n:Nat} (hn:n < 256) (h:((c.toNat:Int) == (n:Int)) = true):c = UInt8.ofNat n:=by
 apply UInt8.toNat_inj.1
 have e:=beq_iff_eq.1 h
 have:(UInt8.ofNat n).toNat = n:=by simp;omega
 omega
theorem cells_snoc (acc:List UInt8) (c:UInt8):Lib.byteCells acc ++ [Value.int .u8 c.toNat] = Lib.byteCells (acc ++ [c]):=by
 simp [Lib.byteCells]
theorem cells_len (acc:List UInt8):(Lib.byteCells acc).length = acc.length:=by simp [Lib.byteCells]
theorem wb_any (b:Nat) (acc:List UInt8) (c:UInt8) (w:World) (h:IsB b acc w) (hlen:acc.length ≤ 1000000000000) (hb:b ≤ w.heap.size) :
  Calls Tryz.prog 176 #[.pointer (some ⟨b,0,none⟩),.int .u8 c.toNat] w fun e w'=>e = .returned .nilIface ∧ IsB b (acc ++ [c]) w' ∧ Below b w w':=by
 refine (build.WriteByte_any b b (Lib.byteCells acc) (c.toNat:Int) w h (by rw [cells_len];omega) hb).mono fun e w' h2=>⟨h2.1,?_,h2.2.2⟩
 show Lib.IsBuilder _ _ b b (Lib.byteCells (acc ++ [c])) w'
 rw [← cells_snoc]
 exact .inr h2.2.1
theorem new_builder (w:World):IsB w.heap.size [] (w.alloc (.cells #[.pointer none,.slice none 0 0] 117)):=by
 refine .inl ⟨Nat.le_refl _,.slice none 0 0,heap_alloc_new w _,World.ownsRow_nil _ _ _ _,?_⟩
 simp [Value.ownBlock]
set_option maxHeartbeats 4000000 in
theorem text_any (s:ByteArray) (w:World) (hs:s.size ≤ 1000000000) (h1:1 ≤ s.size) :
  Calls Tryz.prog 136 #[.string s] w fun e w'=>e = .returned (.tuple #[.string ⟨(textR s.data.toList).1.toArray⟩,.int .i64 (textR s.data.toList).2]) ∧ Below w.heap.size w w':=by
 have H0:Hid (TxAt s 1 []):=by
  refine ⟨Nat.le_refl _,by simp,?_⟩
  cases qtS false (s.data.toList.drop 1) <;> simp
 have HB0:=Lib.hid (new_builder w)
 have HBW:Hid (Below w.heap.size w (w.alloc (.cells #[.pointer none,.slice none 0 0] 117))):=(Below.refl _ _).alloc (Nat.le_refl _) _
 go_enter Tryz.func136,Tryz.ntmps136
 go_wp2_with fail
 go_loopw [5] (fun v wr=>∃ i acc,v = .int .i64 (i:Nat) ∧ i ≤ s.size ∧ TxAt s i acc ∧ IsB w.heap.size acc wr ∧ Below w.heap.size w wr) (fun v _=>s.size - (intOf v).toNat)
 case atStart=>exact ⟨1,[],rfl,h1,H0.out,HB0.out,HBW.out⟩
 case round =>
  obtain ⟨i,acc,rfl,hi,htx,hisb,hbl⟩:=hrel
  generalize hB:w.heap.size = b at *
  have HB:=Lib.hid hB
  have HTX:=Lib.hid htx
  have HIS:=Lib.hid hisb
  have HBL:=Lib.hid hbl
  have hsz:b ≤ wr.heap.size:=by rw [← HB.out];exact hbl.size
  have hal:=htx.2.1
  clear hB htx hisb hbl
  by_cases hlt:i < s.size
  ·cases q34:((s[i].toNat:Int) == 34)
   ·have n34:=Lib.hid (u8_ne (n:=34) (by decide) q34)
    cases q32:decide ((s[i].toNat:Int) < 32)
    ·have g32:Hid (¬ s[i].toNat < 32):=by have:=of_decide_eq_false q32;unfold Hid;omega
     cases q92:((s[i].toNat:Int) == 92)
     ·have n92:=Lib.hid (u8_ne (n:=92) (by decide) q92)
      have HN:=Lib.hid (HTX.out.step hlt n34.out g32.out n92.out)
      have HW:=Lib.hid (wb_any b acc s[i] wr HIS.out (by omega) hsz)
      go_wp2_with fail
      (with_reducible refine HW.out.mono ?_);rintro e w2 ⟨rfl,hi2,hb2⟩
      have HI2:=Lib.hid hi2
      have HB2:=Lib.hid (HBL.out.trans hb2)
      clear hi2 hb2
      go_wp2_with fail
      go_roundw
      case rel=>exact ⟨i + 1,_,by go_num,by omega,HN.out,HI2.out,HB2.out⟩
      case measure=>simp [intOf];omega
     ·have e92:=Lib.hid (u8_eq (n:=92) (by decide) q92)
      by_cases hl2:i + 1 < s.size
      ·have HX:Hid (∀ W,Calls Tryz.prog 175 #[.string ⟨#[34,92,110,116]⟩,.int .u8 (s[i + 1].toNat:Int)] W fun e w'=>e = .returned (.int .i64 (Lib.indexByte [34,92,110,116] s[i + 1])) ∧ W = w'):=fun W=>(Tryz.strings_IndexByte ⟨#[34,92,110,116]⟩ (s[i + 1].toNat:Int) W).mono fun e w' h=>⟨h.1.trans (by rw [show ((s[i + 1].toNat:Int)).toNat.toUInt8 = s[i + 1] by simp]),h.2.symm⟩
       have HEN:=Lib.hid (fun h=>HTX.out.noesc hl2 e92.out h)
       have HES:=Lib.hid (fun e h=>HTX.out.esc (e:=e) hl2 e92.out h)
       have hl3:decide ((i:Int) + 1 < s.size) = true:=decide_eq_true (by omega)
       rcases esc_cases s[i + 1] with ⟨he,hx⟩ | ⟨he,hx⟩ | ⟨he,hx⟩ | ⟨he,hx⟩ | ⟨he,hx⟩
       ·rw [hx] at HX
        have HN:=Lib.hid (HES.out _ he)
        have HW:=Lib.hid (wb_any b acc 34 wr HIS.out (by omega) hsz)
        have HW:Hid (Calls Tryz.prog 176 #[.pointer (some ⟨b,0,none⟩),.int .u8 34] wr fun e w'=>e = .returned .nilIface ∧ IsB b (acc ++ [34]) w' ∧ Below b wr w'):=HW
        clear he hx HEN HES
        go_wp2_with (go_at_call 175;refine (HX.out _).mono ?_;rintro e w' ⟨rfl,rfl⟩)
        (refine HW.out.mono ?_);rintro e w2 ⟨rfl,hi2,hb2⟩
        have HI2:=Lib.hid hi2
        have HB2:=Lib.hid (HBL.out.trans hb2)
        clear hi2 hb2
        go_wp2_with fail
        go_roundw
        case rel=>exact ⟨i + 2,_,by go_num,by omega,HN.out,HI2.out,HB2.out⟩
        case measure=>simp [intOf];omega
       ·rw [hx] at HX
        have HN:=Lib.hid (HES.out _ he)
        have HW:=Lib.hid (wb_any b acc 92 wr HIS.out (by omega) hsz)
        have HW:Hid (Calls Tryz.prog 176 #[.pointer (some ⟨b,0,none⟩),.int .u8 92] wr fun e w'=>e = .returned .nilIface ∧ IsB b (acc ++ [92]) w' ∧ Below b wr w'):=HW
        clear he hx HEN HES
        go_wp2_with (go_at_call 175;refine (HX.out _).mono ?_;rintro e w' ⟨rfl,rfl⟩)
        (refine HW.out.mono ?_);rintro e w2 ⟨rfl,hi2,hb2⟩
        have HI2:=Lib.hid hi2
        have HB2:=Lib.hid (HBL.out.trans hb2)
        clear hi2 hb2
        go_wp2_with fail
        go_roundw
        case rel=>exact ⟨i + 2,_,by go_num,by omega,HN.out,HI2.out,HB2.out⟩
        case measure=>simp [intOf];omega
       ·rw [hx] at HX
        have HN:=Lib.hid (HES.out _ he)
        have HW:=Lib.hid (wb_any b acc 10 wr HIS.out (by omega) hsz)
        have HW:Hid (Calls Tryz.prog 176 #[.pointer (some ⟨b,0,none⟩),.int .u8 10] wr fun e w'=>e = .returned .nilIface ∧ IsB b (acc ++ [10]) w' ∧ Below b wr w'):=HW
        clear he hx HEN HES
        go_wp2_with (go_at_call 175;refine (HX.out _).mono ?_;rintro e w' ⟨rfl,rfl⟩)
        (refine HW.out.mono ?_);rintro e w2 ⟨rfl,hi2,hb2⟩
        have HI2:=Lib.hid hi2
        have HB2:=Lib.hid (HBL.out.trans hb2)
        clear hi2 hb2
        go_wp2_with fail
        go_roundw
        case rel=>exact ⟨i + 2,_,by go_num,by omega,HN.out,HI2.out,HB2.out⟩
        case measure=>simp [intOf];omega
       ·rw [hx] at HX
        have HN:=Lib.hid (HES.out _ he)
        have HW:=Lib.hid (wb_any b acc 9 wr HIS.out (by omega) hsz)
        have HW:Hid (Calls Tryz.prog 176 #[.pointer (some ⟨b,0,none⟩),.int .u8 9] wr fun e w'=>e = .returned .nilIface ∧ IsB b (acc ++ [9]) w' ∧ Below b wr w'):=HW
        clear he hx HEN HES
        go_wp2_with (go_at_call 175;refine (HX.out _).mono ?_;rintro e w' ⟨rfl,rfl⟩)
        (refine HW.out.mono ?_);rintro e w2 ⟨rfl,hi2,hb2⟩
        have HI2:=Lib.hid hi2
        have HB2:=Lib.hid (HBL.out.trans hb2)
        clear hi2 hb2
        go_wp2_with fail
        go_roundw
        case rel=>exact ⟨i + 2,_,by go_num,by omega,HN.out,HI2.out,HB2.out⟩
        case measure=>simp [intOf];omega
       ·rw [hx] at HX
        have HN:=Lib.hid (HEN.out he)
        clear he hx HEN HES
        go_wp2_with (go_at_call 175;refine (HX.out _).mono ?_;rintro e w' ⟨rfl,rfl⟩)
        go_ret2
        exact ⟨by rw [HN.out];rfl,by rw [HB.out];exact HBL.out⟩
      ·have HN:=Lib.hid (HTX.out.end' hlt e92.out (by omega))
       have hl3:decide ((i:Int) + 1 < s.size) = false:=decide_eq_false (by omega)
       go_wp2_with fail
       go_ret2
       exact ⟨by rw [HN.out];rfl,by rw [HB.out];exact HBL.out⟩
    ·have g32:Hid (s[i].toNat < 32):=by have:=of_decide_eq_true q32;unfold Hid;omega
     have HN:=Lib.hid (HTX.out.low hlt n34.out g32.out)
     go_wp2_with fail
     go_ret2
     exact ⟨by rw [HN.out];rfl,by rw [HB.out];exact HBL.out⟩
   ·have e34:=Lib.hid (u8_eq (n:=34) (by decide) q34)
    have HQ:=Lib.hid (HTX.out.quote hlt e34.out)
    have HL:=Lib.hid (fun W h=>Tryz.Builder_Len b b (Lib.byteCells acc) W h)
    rw [cells_len] at HL
    by_cases hbig:1024 < acc.length
    ·have HQ2:Hid (textR s.data.toList = ([],0)):=by unfold Hid;rw [HQ.out,if_pos hbig]
     have hd:decide (1024 < (acc.length:Int)) = true:=decide_eq_true (by omega)
     clear HQ
     go_wp2_with (go_at_call 174;refine (HL.out _ HIS.out).mono ?_;rintro e w' ⟨rfl,rfl⟩)
     go_ret2
     exact ⟨by rw [HQ2.out];rfl,by rw [HB.out];exact HBL.out⟩
    ·have HQ2:Hid (textR s.data.toList = (acc,i + 1)):=by unfold Hid;rw [HQ.out,if_neg hbig]
     have hd:decide (1024 < (acc.length:Int)) = false:=decide_eq_false (by omega)
     have HSt:=Lib.hid (Tryz.Builder_String_any b b acc wr HIS.out hsz)
     clear HQ
     go_wp2_with (go_at_call 174;refine (HL.out _ HIS.out).mono ?_;rintro e w' ⟨rfl,rfl⟩)
     (with_reducible refine HSt.out.mono ?_);rintro e w2 ⟨rfl,hb2⟩
     have HB2:=Lib.hid (HBL.out.trans hb2)
     clear hb2
     go_wp2_with fail
     go_ret2
     exact ⟨by rw [HQ2.out];rfl,by rw [HB.out];exact HB2.out⟩
  ·have HN:=Lib.hid (HTX.out.over (by omega))
   go_wp2_with fail
   go_ret2
   exact ⟨by rw [HN.out];rfl,by rw [HB.out];exact HBL.out⟩
end Go.Proofs.YtmfpmandkhiknaaGreatDoor.lex
namespace Go.Proofs.YtmfpmandkhiknaaGreatDoor.lex
open Go.RowKit
open flt (isD fv ofT ofE OfText_any)
open heap
open num (list_len drop_cons ret_pair)
set_option maxRecDepth 100000
theorem run_store_float {P:Program} {w:World} {a:Addr} {m:Mode} (x:Nat):(store a (.float .f64 x) m).run P w = stored P w a (.float .f64 x) m:=run_store P w a _ m rfl
attribute [local go_sem] run_store_float
abbrev tkV (k:Int) (t:ByteArray) (x:Nat) (a:Nat):Value:=.agg #[.int .i64 k,.string t,.float .f64 x,.int .i64 a]
def TkAt (w:World) (b:Nat) (k:Int) (t:ByteArray) (x:Nat) (a:Nat):Prop:=w.heap[b]? = some (.cells #[.int .i64 k,.string t,.float .f64 x,.int .i64 a] 98 (0,0))
theorem TkAt.cells {w:World} {b:Nat} {k:Int} {t:ByteArray} {x a:Nat} (h:TkAt w b k t x a):w.cell? ⟨b,0,none⟩ = some (.int .i64 k) ∧ w.cell? ⟨b,1,none⟩ = some (.string t) ∧ w.cell? ⟨b,2,none⟩ = some (.float .f64 x) ∧ w.cell? ⟨b,3,none⟩ = some (.int .i64 a) ∧
  w.frozen? ⟨b,0,none⟩ = false ∧ w.frozen? ⟨b,1,none⟩ = false ∧ w.frozen? ⟨b,2,none⟩ = false ∧ w.frozen? ⟨b,3,none⟩ = false ∧ b < w.heap.size:=
 ⟨by rw [blk_cell h];rfl,by rw [blk_cell h];rfl,by rw [blk_cell h];rfl,by rw [blk_cell h];rfl,blk_free h 0,blk_free h 1,blk_free h 2,blk_free h 3,blk_lt h⟩
theorem TkAt.below {w w':World} {b:Nat} {k:Int} {t:ByteArray} {x a:Nat} (h:TkAt w b k t x a) (hb:Below w.heap.size w w'):TkAt w' b k t x a:=blk_below h hb
theorem TkAt.set4 {w:World} {b:Nat} {k0:Int} {t0:ByteArray} {x0 a0:Nat} (h:TkAt w b k0 t0 x0 a0) (k:Int) (t:ByteArray) (x a:Nat) :
  TkAt ((((w.setCell ⟨b,0,none⟩ (.int .i64 k)).setCell ⟨b,1,none⟩ (.string t)).setCell ⟨b,2,none⟩ (.float .f64 x)).setCell ⟨b,3,none⟩ (.int .i64 a)) b k t x a:=by
 have h1:=blk_set h 0 (.int .i64 k)
 have h2:=blk_set h1 1 (.string t)
 have h3:=blk_set h2 2 (.float .f64 x)
 have h4:=blk_set h3 3 (.int .i64 a)
 exact h4
theorem TkAt.other2 {w:World} {b c:Nat} {k:Int} {t:ByteArray} {x a:Nat} (h:TkAt w b k t x a) (hn:b ≠ c) (u v:Value):TkAt ((w.setCell ⟨c,0,none⟩ u).setCell ⟨c,1,none⟩ v) b k t x a:=by
 unfold TkAt;rw [blk_other hn,blk_other hn];exact h
theorem ScAt.other4 {w:World} {b c k:Nat} {s:ByteArray} (h:ScAt w b s k) (hn:b ≠ c) (u v u' v':Value):ScAt ((((w.setCell ⟨c,0,none⟩ u).setCell ⟨c,1,none⟩ v).setCell ⟨c,2,none⟩ u').setCell ⟨c,3,none⟩ v') b s k:=by
 unfold ScAt;rw [blk_other hn,blk_other hn,blk_other hn,blk_other hn];exact h
theorem TkAt.drew' {w:World} {b:Nat} {k:Int} {t:ByteArray} {x a:Nat} (h:TkAt w b k t x a):TkAt w.drew b k t x a:=h
theorem ScAt.drew' {w:World} {b k:Nat} {s:ByteArray} (h:ScAt w b s k):ScAt w.drew b s k:=h
abbrev w4 (w:World) (s:ByteArray) (a:Nat):World:=(((w.alloc (.cells #[.string s,.int .i64 a] 150)).alloc (.cells #[.int .i64 0,.string ⟨#[]⟩,.float .f64 0,.int .i64 0] 98)).alloc (.cells #[.string ⟨#[]⟩,.int .i64 0] 150)).alloc (.cells #[.int .i64 0,.string ⟨#[]⟩,.float .f64 0,.int .i64 a] 98)
structure TF (w:World) (s:ByteArray) (a:Nat) (k:Int) (t:ByteArray) (x:Nat) (w1:World):Prop where
 sc:ScAt w1 w.heap.size s a
 r1:TkAt w1 (w.heap.size + 1) 0 ⟨#[]⟩ 0 0
 r2:ScAt w1 (w.heap.size + 1 + 1) ⟨#[]⟩ 0
 tk:TkAt w1 (w.heap.size + 1 + 1 + 1) k t x a
 bl:Below w.heap.size w w1
theorem TF.start (w:World) (s:ByteArray) (a:Nat):TF w s a 0 ⟨#[]⟩ 0 (w4 w s a):=by
 refine ⟨?_,?_,?_,?_,?_⟩
 ·exact blk_old (blk_old (blk_old (blk_new _ _) _) _) _
 ·have:=blk_new (w.alloc (.cells #[.string s,.int .i64 a] 150)) (.cells #[.int .i64 0,.string ⟨#[]⟩,.float .f64 0,.int .i64 0] 98)
  exact blk_old (blk_old (by simpa using this) _) _
 ·have:=blk_new ((w.alloc (.cells #[.string s,.int .i64 a] 150)).alloc (.cells #[.int .i64 0,.string ⟨#[]⟩,.float .f64 0,.int .i64 0] 98)) (.cells #[.string ⟨#[]⟩,.int .i64 0] 150)
  exact blk_old (by simpa using this) _
 ·have:=blk_new (((w.alloc (.cells #[.string s,.int .i64 a] 150)).alloc (.cells #[.int .i64 0,.string ⟨#[]⟩,.float .f64 0,.int .i64 0] 98)).alloc (.cells #[.string ⟨#[]⟩,.int .i64 0] 150)) (.cells #[.int .i64 0,.string ⟨#[]⟩,.float .f64 0,.int .i64 a] 98)
  unfold TkAt
  simpa using this
 ·exact ((((Below.refl _ _).alloc (Nat.le_refl _) _).alloc (by simp) _).alloc (by simp;omega) _).alloc (by simp;omega) _
theorem TF.below {w w1 w2:World} {s:ByteArray} {a:Nat} {k:Int} {t:ByteArray} {x:Nat} (h:TF w s a k t x w1) (hb:Below w1.heap.size w1 w2):TF w s a k t x w2:=
 ⟨h.sc.below hb,h.r1.below hb,h.r2.below hb,h.tk.below hb,h.bl.trans (hb.mono h.bl.size)⟩
structure TR (w:World) (k:Int) (t:ByteArray) (x a:Nat) (s:ByteArray) (n:Nat) (w1:World):Prop where
 r1:TkAt w1 (w.heap.size + 1) k t x a
 r2:ScAt w1 (w.heap.size + 1 + 1) s n
 bl:Below w.heap.size w w1
theorem TF.out {w w1:World} {s0:ByteArray} {a0:Nat} {k0:Int} {t0:ByteArray} {x0:Nat} (h:TF w s0 a0 k0 t0 x0 w1) (k:Int) (t:ByteArray) (x a:Nat) (s:ByteArray) (n:Nat) :
  TR w k t x a s n (((((((w1.setCell ⟨w.heap.size + 1,0,none⟩ (.int .i64 k)).setCell ⟨w.heap.size + 1,1,none⟩ (.string t)).setCell ⟨w.heap.size + 1,2,none⟩ (.float .f64 x)).setCell ⟨w.heap.size + 1,3,none⟩ (.int .i64 a)).setCell ⟨w.heap.size + 1 + 1,0,none⟩ (.string s)).setCell ⟨w.heap.size + 1 + 1,1,none⟩ (.int .i64 n)).drew):=by
 refine ⟨((h.r1.set4 k t x a).other2 (by omega) _ _).drew',((h.r2.other4 (by omega) _ _ _ _).set2 s n).drew',?_⟩
 exact ((((((h.bl.setCell (by simp) _).setCell (by simp) _).setCell (by simp) _).setCell (by simp) _).setCell (by simp;omega) _).setCell (by simp;omega) _).drew
set_option maxHeartbeats 2000000 in
theorem tk_end (s R:ByteArray) (a:Nat) (w:World) (hR:R.toList = []) (HR:Hid (∀ W,Calls Tryz.prog 127 #[scV s a] W fun e w'=>e = .returned (.string R) ∧ Below W.heap.size W w')) :
  Calls Tryz.prog 96 #[scV s a] w fun e w'=>e = .returned (.tuple #[tkV 0 ⟨#[]⟩ 0 a,scV s a,.int .i64 0]) ∧ Below w.heap.size w w':=by
 have HF:=Lib.hid (TF.start w s a)
 go_enter Tryz.func96,Tryz.ntmps96
 go_wp2_with fail
 refine (HR.out (w4 w s a)).mono ?_
 rintro e w1 ⟨rfl,hb1⟩
 have HF1:=Lib.hid (HF.out.below hb1)
 clear hb1 HF
 obtain ⟨c0,c1,f0,f1,hl0⟩:=HF1.out.sc.cells
 obtain ⟨d0,d1,d2,d3,g0,g1,g2,g3,hl1⟩:=HF1.out.r1.cells
 obtain ⟨p0,p1,q0,q1,hl2⟩:=HF1.out.r2.cells
 obtain ⟨m0,m1,m2,m3,n0,n1,n2,n3,hl3⟩:=HF1.out.tk.cells
 go_wp2_with fail
 go_region
 all_goals
  go_wp2
  have hT:=HF1.out.out 0 ⟨#[]⟩ 0 a s a
  obtain ⟨e0,e1,e2,e3,_⟩:=hT.r1.cells
  obtain ⟨e4,e5,_⟩:=hT.r2.cells
  exact bodyPost_ret (v:=.tuple #[tkV 0 ⟨#[]⟩ 0 a,scV s a,.int .i64 0]) (by simp [results,Tryz.results96,go_sem,e0,e1,e2,e3,e4,e5]) rfl ⟨rfl,hT.bl⟩
end Go.Proofs.YtmfpmandkhiknaaGreatDoor.lex
namespace Go.Proofs.YtmfpmandkhiknaaGreatDoor.lex
open Go.RowKit
open flt (isD fv ofT ofE OfText_any)
open heap
open num (list_len drop_cons ret_pair bcell)
set_option maxRecDepth 100000
attribute [local go_sem] run_store_float
theorem TF.put2 {w w1:World} {s:ByteArray} {a:Nat} {k0:Int} {t0:ByteArray} {x:Nat} (h:TF w s a k0 t0 x w1) (k:Int) (t:ByteArray) :
  TF w s a k t x ((w1.setCell ⟨w.heap.size + 1 + 1 + 1,0,none⟩ (.int .i64 k)).setCell ⟨w.heap.size + 1 + 1 + 1,1,none⟩ (.string t)):=by
 refine ⟨h.sc.other (by omega) _ _,h.r1.other2 (by omega) _ _,h.r2.other (by omega) _ _,?_,(h.bl.setCell (by simp;omega) _).setCell (by simp;omega) _⟩
 have h1:=blk_set h.tk 0 (.int .i64 k)
 have h2:=blk_set h1 1 (.string t)
 exact h2
theorem TF.drew' {w w1:World} {s:ByteArray} {a:Nat} {k:Int} {t:ByteArray} {x:Nat} (h:TF w s a k t x w1):TF w s a k t x w1.drew:=⟨h.sc,h.r1,h.r2,h.tk,h.bl.drew⟩
def outW (w w1:World) (k:Int) (t:ByteArray) (x a:Nat) (s:ByteArray) (n:Nat):World:=(((((w1.setCell ⟨w.heap.size + 1,0,none⟩ (.int .i64 k)).setCell ⟨w.heap.size + 1,1,none⟩ (.string t)).setCell ⟨w.heap.size + 1,2,none⟩ (.float .f64 x)).setCell ⟨w.heap.size + 1,3,none⟩ (.int .i64 a)).setCell ⟨w.heap.size + 1 + 1,0,none⟩ (.string s)).setCell ⟨w.heap.size + 1 + 1,1,none⟩ (.int .i64 n)
theorem TF.outN {w w1:World} {s0:ByteArray} {a0:Nat} {k0:Int} {t0:ByteArray} {x0:Nat} (h:TF w s0 a0 k0 t0 x0 w1) (k:Int) (t:ByteArray) (x a:Nat) (s:ByteArray) (n:Nat) :
  TR w k t x a s n (outW w w1 k t x a s n):=by
 refine ⟨(h.r1.set4 k t x a).other2 (by omega) _ _,(h.r2.other4 (by omega) _ _ _ _).set2 s n,?_⟩
 exact (((((h.bl.setCell (by simp) _).setCell (by simp) _).setCell (by simp) _).setCell (by simp) _).setCell (by simp;omega) _).setCell (by simp;omega) _
set_option maxHeartbeats 4000000 in
theorem tk_long (s R:ByteArray) (a:Nat) (w:World) (hz:R.size ≤ 1000000000) (ha:a + R.size ≤ 2000000000) (h0:0 < R.size) (hE:R.toList.isEmpty = false) (HR:Hid (∀ W,Calls Tryz.prog 127 #[scV s a] W fun e w'=>e = .returned (.string R) ∧ Below W.heap.size W w'))
  (HL:Hid (∀ W,Calls Tryz.prog 132 #[.int .u8 (R[0].toNat:Int)] W fun e w'=>e = .returned (.bool true) ∧ W = w')) (n:Nat) (hn:n ≤ R.size) (HN:Hid (∀ W,Calls Tryz.prog 126 #[.string R,.func (.func 133) #[] #[]] W fun e w'=>e = .returned (.int .i64 n) ∧ W = w')) (hlong:32 < n) :
  Calls Tryz.prog 96 #[scV s a] w fun e w'=>e = .returned (.tuple #[tkV 0 ⟨#[]⟩ 0 a,scV s a,.int .i64 1800]) ∧ Below w.heap.size w w':=by
 have HF:=Lib.hid (TF.start w s a)
 go_enter Tryz.func96,Tryz.ntmps96
 go_wp2_with fail
 refine (HR.out (w4 w s a)).mono ?_
 rintro e w1 ⟨rfl,hb1⟩
 have HF1:=Lib.hid (HF.out.below hb1)
 clear hb1 HF
 obtain ⟨c0,c1,f0,f1,hl0⟩:=HF1.out.sc.cells
 obtain ⟨d0,d1,d2,d3,g0,g1,g2,g3,hl1⟩:=HF1.out.r1.cells
 obtain ⟨p0,p1,q0,q1,hl2⟩:=HF1.out.r2.cells
 obtain ⟨m0,m1,m2,m3,n0,n1,n2,n3,hl3⟩:=HF1.out.tk.cells
 have hd:decide (32 < (n:Int)) = true:=decide_eq_true (by omega)
 go_wp2_with (first | (go_at_call 132;refine (HL.out _).mono ?_;rintro e w' ⟨rfl,rfl⟩) | (go_at_call 126;refine (HN.out _).mono ?_;rintro e w' ⟨rfl,rfl⟩))
 go_region
 all_goals
  go_wp2
  have hT:=HF1.out.out 0 ⟨#[]⟩ 0 a s a
  obtain ⟨e0,e1,e2,e3,_⟩:=hT.r1.cells
  obtain ⟨e4,e5,_⟩:=hT.r2.cells
  exact bodyPost_ret (v:=.tuple #[tkV 0 ⟨#[]⟩ 0 a,scV s a,.int .i64 1800]) (by simp [results,Tryz.results96,go_sem,e0,e1,e2,e3,e4,e5]) rfl ⟨rfl,hT.bl⟩
set_option maxHeartbeats 4000000 in
theorem tk_name (s R:ByteArray) (a:Nat) (w:World) (hz:R.size ≤ 1000000000) (ha:a + R.size ≤ 2000000000) (h0:0 < R.size) (hE:R.toList.isEmpty = false) (HR:Hid (∀ W,Calls Tryz.prog 127 #[scV s a] W fun e w'=>e = .returned (.string R) ∧ Below W.heap.size W w'))
  (HL:Hid (∀ W,Calls Tryz.prog 132 #[.int .u8 (R[0].toNat:Int)] W fun e w'=>e = .returned (.bool true) ∧ W = w')) (n:Nat) (hn:n ≤ R.size) (HN:Hid (∀ W,Calls Tryz.prog 126 #[.string R,.func (.func 133) #[] #[]] W fun e w'=>e = .returned (.int .i64 n) ∧ W = w')) (hlong:n ≤ 32) (T:ByteArray) (hT0:R.extract 0 n = T) :
  Calls Tryz.prog 96 #[scV s a] w fun e w'=>e = .returned (.tuple #[tkV 1 T 0 a,scV s ((a + n:Nat):Int),.int .i64 0]) ∧ Below w.heap.size w w':=by
 have HF:=Lib.hid (TF.start w s a)
 go_enter Tryz.func96,Tryz.ntmps96
 go_wp2_with fail
 refine (HR.out (w4 w s a)).mono ?_
 rintro e w1 ⟨rfl,hb1⟩
 have HF1:=Lib.hid (HF.out.below hb1)
 clear hb1 HF
 obtain ⟨c0,c1,f0,f1,hl0⟩:=HF1.out.sc.cells
 obtain ⟨d0,d1,d2,d3,g0,g1,g2,g3,hl1⟩:=HF1.out.r1.cells
 obtain ⟨p0,p1,q0,q1,hl2⟩:=HF1.out.r2.cells
 obtain ⟨m0,m1,m2,m3,n0,n1,n2,n3,hl3⟩:=HF1.out.tk.cells
 have hd:decide (32 < (n:Int)) = false:=decide_eq_false (by omega)
 have HO:=Lib.hid (fun W=>on_any s a n W (by omega))
 go_wp2_with (first | (go_at_call 132;refine (HL.out _).mono ?_;rintro e w' ⟨rfl,rfl⟩) | (go_at_call 126;refine (HN.out _).mono ?_;rintro e w' ⟨rfl,rfl⟩))
 go_region
 go_wp2
 have hF2:=(HF1.out.put2 1 T).drew'
 generalize ((w1.setCell ⟨w.heap.size + 1 + 1 + 1,0,none⟩ (.int .i64 1)).setCell ⟨w.heap.size + 1 + 1 + 1,1,none⟩ (.string T)).drew = w2 at hF2 ⊢
 have HF2:=Lib.hid hF2
 clear hF2 HF1 c0 c1 f0 f1 hl0 d0 d1 d2 d3 g0 g1 g2 g3 hl1 p0 p1 q0 q1 hl2 m0 m1 m2 m3 n0 n1 n2 n3 hl3
 obtain ⟨c0,c1,f0,f1,hl0⟩:=HF2.out.sc.cells
 obtain ⟨d0,d1,d2,d3,g0,g1,g2,g3,hl1⟩:=HF2.out.r1.cells
 obtain ⟨p0,p1,q0,q1,hl2⟩:=HF2.out.r2.cells
 obtain ⟨m0,m1,m2,m3,n0,n1,n2,n3,hl3⟩:=HF2.out.tk.cells
 go_region_with (go_at_call 131;refine (HO.out _).mono ?_;rintro e w3 ⟨rfl,hb3⟩;have hF3:TF w s a 1 T 0 w3:=(by first | exact HF2.out.below hb3 | exact HF2.out.drew'.below hb3);clear hb3;obtain ⟨a0,a1,a2,a3,b0,b1,b2,b3,k1⟩:=hF3.r1.cells;obtain ⟨a4,a5,b4,b5,k2⟩:=hF3.r2.cells;obtain ⟨a6,a7,a8,a9,b6,b7,b8,b9,k3⟩:=hF3.tk.cells;obtain ⟨y0,y1,y2,y3,k4⟩:=hF3.sc.cells;have HF3:=Lib.hid hF3;clear hF3)
 all_goals
  go_wp2
  rw [show ((a:Int) + (n:Int)) = ((a + n:Nat):Int) by omega]
  have hT:=HF3.out.outN 1 T 0 a s (a + n)
  change bodyPost _ _ _ _ _ (outW w w3 1 T 0 a s (a + n))
  generalize outW w w3 1 T 0 a s (a + n) = W at hT ⊢
  obtain ⟨e0,e1,e2,e3,_⟩:=hT.r1.cells
  obtain ⟨e4,e5,_⟩:=hT.r2.cells
  exact bodyPost_ret (v:=.tuple #[tkV 1 T 0 a,scV s ((a + n:Nat):Int),.int .i64 0]) (by simp [results,Tryz.results96,go_sem,e0,e1,e2,e3,e4,e5]) rfl ⟨rfl,hT.bl⟩
set_option maxHeartbeats 4000000 in
theorem tk_strbad (s R:ByteArray) (a:Nat) (w:World) (hz:R.size ≤ 1000000000) (ha:a + R.size ≤ 2000000000) (h0:0 < R.size) (hE:R.toList.isEmpty = false) (HR:Hid (∀ W,Calls Tryz.prog 127 #[scV s a] W fun e w'=>e = .returned (.string R) ∧ Below W.heap.size W w'))
  (HL:Hid (∀ W,Calls Tryz.prog 132 #[.int .u8 (R[0].toNat:Int)] W fun e w'=>e = .returned (.bool false) ∧ W = w')) (HD:Hid (∀ W,Calls Tryz.prog 134 #[.int .u8 (R[0].toNat:Int)] W fun e w'=>e = .returned (.bool false) ∧ W = w')) (hq:((R[0].toNat:Int) == 34) = true) (T:ByteArray) (n:Nat) (HT:Hid (∀ W,Calls Tryz.prog 136 #[.string R] W fun e w'=>e = .returned (.tuple #[.string T,.int .i64 n]) ∧ Below W.heap.size W w')) (hn:n = 0) :
  Calls Tryz.prog 96 #[scV s a] w fun e w'=>e = .returned (.tuple #[tkV 0 ⟨#[]⟩ 0 a,scV s a,.int .i64 1801]) ∧ Below w.heap.size w w':=by
 have HF:=Lib.hid (TF.start w s a)
 go_enter Tryz.func96,Tryz.ntmps96
 go_wp2_with fail
 refine (HR.out (w4 w s a)).mono ?_
 rintro e w1 ⟨rfl,hb1⟩
 have HF1:=Lib.hid (HF.out.below hb1)
 clear hb1 HF
 obtain ⟨c0,c1,f0,f1,hl0⟩:=HF1.out.sc.cells
 obtain ⟨d0,d1,d2,d3,g0,g1,g2,g3,hl1⟩:=HF1.out.r1.cells
 obtain ⟨p0,p1,q0,q1,hl2⟩:=HF1.out.r2.cells
 obtain ⟨m0,m1,m2,m3,n0,n1,n2,n3,hl3⟩:=HF1.out.tk.cells
 subst hn
 go_wp2_with (first | (go_at_call 132;refine (HL.out _).mono ?_;rintro e w' ⟨rfl,rfl⟩) | (go_at_call 134;refine (HD.out _).mono ?_;rintro e w' ⟨rfl,rfl⟩))
 refine (HT.out _).mono ?_;rintro e w2 ⟨rfl,hb2⟩
 have HF2:=Lib.hid (HF1.out.below hb2)
 clear hb2 HF1 c0 c1 f0 f1 hl0 d0 d1 d2 d3 g0 g1 g2 g3 hl1 p0 p1 q0 q1 hl2 m0 m1 m2 m3 n0 n1 n2 n3 hl3
 obtain ⟨c0,c1,f0,f1,hl0⟩:=HF2.out.sc.cells
 obtain ⟨d0,d1,d2,d3,g0,g1,g2,g3,hl1⟩:=HF2.out.r1.cells
 obtain ⟨p0,p1,q0,q1,hl2⟩:=HF2.out.r2.cells
 obtain ⟨m0,m1,m2,m3,n0,n1,n2,n3,hl3⟩:=HF2.out.tk.cells
 go_wp2_with fail
 go_region
 all_goals
  go_wp2
  have hT:=HF2.out.out 0 ⟨#[]⟩ 0 a s a
  obtain ⟨e0,e1,e2,e3,_⟩:=hT.r1.cells
  obtain ⟨e4,e5,_⟩:=hT.r2.cells
  exact bodyPost_ret (v:=.tuple #[tkV 0 ⟨#[]⟩ 0 a,scV s a,.int .i64 1801]) (by simp [results,Tryz.results96,go_sem,e0,e1,e2,e3,e4,e5]) rfl ⟨rfl,hT.bl⟩
set_option maxHeartbeats 4000000 in
theorem tk_str (s R:ByteArray) (a:Nat) (w:World) (hz:R.size ≤ 1000000000) (ha:a + R.size ≤ 2000000000) (h0:0 < R.size) (hE:R.toList.isEmpty = false) (HR:Hid (∀ W,Calls Tryz.prog 127 #[scV s a] W fun e w'=>e = .returned (.string R) ∧ Below W.heap.size W w'))
  (HL:Hid (∀ W,Calls Tryz.prog 132 #[.int .u8 (R[0].toNat:Int)] W fun e w'=>e = .returned (.bool false) ∧ W = w')) (HD:Hid (∀ W,Calls Tryz.prog 134 #[.int .u8 (R[0].toNat:Int)] W fun e w'=>e = .returned (.bool false) ∧ W = w')) (hq:((R[0].toNat:Int) == 34) = true) (T:ByteArray) (n:Nat) (HT:Hid (∀ W,Calls Tryz.prog 136 #[.string R] W fun e w'=>e = .returned (.tuple #[.string T,.int .i64 n]) ∧ Below W.heap.size W w')) (hn:1 ≤ n) (hn2:n ≤ R.size) :
  Calls Tryz.prog 96 #[scV s a] w fun e w'=>e = .returned (.tuple #[tkV 3 T 0 a,scV s ((a + n:Nat):Int),.int .i64 0]) ∧ Below w.heap.size w w':=by
 have HF:=Lib.hid (TF.start w s a)
 go_enter Tryz.func96,Tryz.ntmps96
 go_wp2_with fail
 refine (HR.out (w4 w s a)).mono ?_
 rintro e w1 ⟨rfl,hb1⟩
 have HF1:=Lib.hid (HF.out.below hb1)
 clear hb1 HF
 obtain ⟨c0,c1,f0,f1,hl0⟩:=HF1.out.sc.cells
 obtain ⟨d0,d1,d2,d3,g0,g1,g2,g3,hl1⟩:=HF1.out.r1.cells
 obtain ⟨p0,p1,q0,q1,hl2⟩:=HF1.out.r2.cells
 obtain ⟨m0,m1,m2,m3,n0,n1,n2,n3,hl3⟩:=HF1.out.tk.cells
 have hn0:((n:Int) == 0) = false:=beq_eq_false_iff_ne.2 (by omega)
 have HO:=Lib.hid (fun W=>on_any s a n W (by omega))
 go_wp2_with (first | (go_at_call 132;refine (HL.out _).mono ?_;rintro e w' ⟨rfl,rfl⟩) | (go_at_call 134;refine (HD.out _).mono ?_;rintro e w' ⟨rfl,rfl⟩))
 refine (HT.out _).mono ?_;rintro e w2 ⟨rfl,hb2⟩
 have HF2:=Lib.hid (HF1.out.below hb2)
 clear hb2 HF1 c0 c1 f0 f1 hl0 d0 d1 d2 d3 g0 g1 g2 g3 hl1 p0 p1 q0 q1 hl2 m0 m1 m2 m3 n0 n1 n2 n3 hl3
 obtain ⟨c0,c1,f0,f1,hl0⟩:=HF2.out.sc.cells
 obtain ⟨d0,d1,d2,d3,g0,g1,g2,g3,hl1⟩:=HF2.out.r1.cells
 obtain ⟨p0,p1,q0,q1,hl2⟩:=HF2.out.r2.cells
 obtain ⟨m0,m1,m2,m3,n0,n1,n2,n3,hl3⟩:=HF2.out.tk.cells
 go_wp2_with fail
 have HF1:=Lib.hid (HF2.out.put2 3 T)
 clear HF2
 have hF2:=HF1.out
 generalize (w2.setCell ⟨w.heap.size + 1 + 1 + 1,0,none⟩ (.int .i64 3)).setCell ⟨w.heap.size + 1 + 1 + 1,1,none⟩ (.string T) = w5 at hF2 ⊢
 have HF2:=Lib.hid hF2
 clear hF2 HF1 c0 c1 f0 f1 hl0 d0 d1 d2 d3 g0 g1 g2 g3 hl1 p0 p1 q0 q1 hl2 m0 m1 m2 m3 n0 n1 n2 n3 hl3
 obtain ⟨c0,c1,f0,f1,hl0⟩:=HF2.out.sc.cells
 obtain ⟨d0,d1,d2,d3,g0,g1,g2,g3,hl1⟩:=HF2.out.r1.cells
 obtain ⟨p0,p1,q0,q1,hl2⟩:=HF2.out.r2.cells
 obtain ⟨m0,m1,m2,m3,n0,n1,n2,n3,hl3⟩:=HF2.out.tk.cells
 go_region_with (go_at_call 131;refine (HO.out _).mono ?_;rintro e w3 ⟨rfl,hb3⟩;have hF3:TF w s a 3 T 0 w3:=(by first | exact HF2.out.below hb3 | exact HF2.out.drew'.below hb3);clear hb3;obtain ⟨a0,a1,a2,a3,b0,b1,b2,b3,k1⟩:=hF3.r1.cells;obtain ⟨a4,a5,b4,b5,k2⟩:=hF3.r2.cells;obtain ⟨a6,a7,a8,a9,b6,b7,b8,b9,k3⟩:=hF3.tk.cells;obtain ⟨y0,y1,y2,y3,k4⟩:=hF3.sc.cells;have HF3:=Lib.hid hF3;clear hF3)
 all_goals
  go_wp2
  rw [show ((a:Int) + (n:Int)) = ((a + n:Nat):Int) by omega]
  have hT:=HF3.out.outN 3 T 0 a s (a + n)
  change bodyPost _ _ _ _ _ (outW w w3 3 T 0 a s (a + n))
  generalize outW w w3 3 T 0 a s (a + n) = W at hT ⊢
  obtain ⟨e0,e1,e2,e3,_⟩:=hT.r1.cells
  obtain ⟨e4,e5,_⟩:=hT.r2.cells
  exact bodyPost_ret (v:=.tuple #[tkV 3 T 0 a,scV s ((a + n:Nat):Int),.int .i64 0]) (by simp [results,Tryz.results96,go_sem,e0,e1,e2,e3,e4,e5]) rfl ⟨rfl,hT.bl⟩
theorem TF.put3 {w w1:World} {s:ByteArray} {a:Nat} {k0:Int} {t0:ByteArray} {x0:Nat} (h:TF w s a k0 t0 x0 w1) (k:Int) (t:ByteArray) (x:Nat) :
  TF w s a k t x (((w1.setCell ⟨w.heap.size + 1 + 1 + 1,0,none⟩ (.int .i64 k)).setCell ⟨w.heap.size + 1 + 1 + 1,1,none⟩ (.string t)).setCell ⟨w.heap.size + 1 + 1 + 1,2,none⟩ (.float .f64 x)):=by
 have h0:=h.put2 k t
 refine ⟨?_,?_,?_,?_,h0.bl.setCell (by simp;omega) _⟩
 ·unfold ScAt;rw [blk_other (by omega)];exact h0.sc
 ·unfold TkAt;rw [blk_other (by omega)];exact h0.r1
 ·unfold ScAt;rw [blk_other (by omega)];exact h0.r2
 ·exact blk_set h0.tk 2 (.float .f64 x)
set_option maxHeartbeats 4000000 in
theorem tk_num (s R:ByteArray) (a:Nat) (w:World) (hz:R.size ≤ 1000000000) (ha:a + R.size ≤ 2000000000) (h0:0 < R.size) (hE:R.toList.isEmpty = false) (HR:Hid (∀ W,Calls Tryz.prog 127 #[scV s a] W fun e w'=>e = .returned (.string R) ∧ Below W.heap.size W w'))
  (HL:Hid (∀ W,Calls Tryz.prog 132 #[.int .u8 (R[0].toNat:Int)] W fun e w'=>e = .returned (.bool false) ∧ W = w')) (HD:Hid (∀ W,Calls Tryz.prog 134 #[.int .u8 (R[0].toNat:Int)] W fun e w'=>e = .returned (.bool true) ∧ W = w'))
  (N0 n:Nat) (b:Bool) (hn0:N0 ≤ R.size) (hnn:n ≤ R.size) (HN:Hid (∀ W,Calls Tryz.prog 126 #[.string R,.func (.func 134) #[] #[]] W fun e w'=>e = .returned (.int .i64 N0) ∧ W = w'))
  (HP:Hid ((R.size ≤ N0 + 1 ∧ b = false) ∨ (∃ h:N0 + 1 < R.size,((R[N0].toNat:Int) == 46) = false ∧ b = false) ∨
   (∃ h:N0 + 1 < R.size,((R[N0].toNat:Int) == 46) = true ∧ Hid (∀ W,Calls Tryz.prog 134 #[.int .u8 (R[N0 + 1].toNat:Int)] W fun e w'=>e = .returned (.bool b) ∧ W = w'))))
  (HQ:Hid ((b = false ∧ n = N0) ∨ (b = true ∧ N0 + 1 < R.size ∧ ∃ m:Nat,Hid (∀ W,Calls Tryz.prog 126 #[.string (R.extract (N0 + 1) R.size),.func (.func 134) #[] #[]] W fun e w'=>e = .returned (.int .i64 m) ∧ W = w') ∧ n = N0 + (1 + m))))
  (T:ByteArray) (hT0:R.extract 0 n = T) (x:Nat) (er:Int) (HX:Hid (∀ W,Calls Tryz.prog 135 #[.string T] W fun e w'=>e = .returned (.tuple #[fv x,.int .i64 er]) ∧ Below W.heap.size W w'))
  (V:Value) (HS:Hid ((er ≠ 0 ∧ V = .tuple #[tkV 0 ⟨#[]⟩ 0 a,scV s a,.int .i64 1802]) ∨ (er = 0 ∧ R.size ≤ n ∧ V = .tuple #[tkV 2 T x a,scV s ((a + n:Nat):Int),.int .i64 0]) ∨
   (er = 0 ∧ ∃ h:n < R.size,Hid (∀ W,Calls Tryz.prog 132 #[.int .u8 (R[n].toNat:Int)] W fun e w'=>e = .returned (.bool true) ∧ W = w') ∧ V = .tuple #[tkV 0 ⟨#[]⟩ 0 a,scV s a,.int .i64 1802]) ∨
   (er = 0 ∧ ∃ h:n < R.size,Hid (∀ W,Calls Tryz.prog 132 #[.int .u8 (R[n].toNat:Int)] W fun e w'=>e = .returned (.bool false) ∧ W = w') ∧ ((R[n].toNat:Int) == 46) = true ∧ V = .tuple #[tkV 0 ⟨#[]⟩ 0 a,scV s a,.int .i64 1802]) ∨
   (er = 0 ∧ ∃ h:n < R.size,Hid (∀ W,Calls Tryz.prog 132 #[.int .u8 (R[n].toNat:Int)] W fun e w'=>e = .returned (.bool false) ∧ W = w') ∧ ((R[n].toNat:Int) == 46) = false ∧ V = .tuple #[tkV 2 T x a,scV s ((a + n:Nat):Int),.int .i64 0]))) :
  Calls Tryz.prog 96 #[scV s a] w fun e w'=>e = .returned (V) ∧ Below w.heap.size w w':=by
 have HF:=Lib.hid (TF.start w s a)
 go_enter Tryz.func96,Tryz.ntmps96
 go_wp2_with fail
 refine (HR.out (w4 w s a)).mono ?_
 rintro e w1 ⟨rfl,hb1⟩
 have HF1:=Lib.hid (HF.out.below hb1)
 clear hb1 HF
 obtain ⟨c0,c1,f0,f1,hl0⟩:=HF1.out.sc.cells
 obtain ⟨d0,d1,d2,d3,g0,g1,g2,g3,hl1⟩:=HF1.out.r1.cells
 obtain ⟨p0,p1,q0,q1,hl2⟩:=HF1.out.r2.cells
 obtain ⟨m0,m1,m2,m3,n0,n1,n2,n3,hl3⟩:=HF1.out.tk.cells
 go_upto_region 13 with (first | (go_at_call 132;refine (HL.out _).mono ?_;rintro e w' ⟨rfl,rfl⟩) | (go_at_call 134;refine (HD.out _).mono ?_;rintro e w' ⟨rfl,rfl⟩) | (go_at_call 126;refine (HN.out _).mono ?_;rintro e w' ⟨rfl,rfl⟩))
 go_cut [67] from 50 to 66 (fun s67 wx=>s67 = .bool b ∧ wx = w1)
 case first =>
  clear HS HX HR HQ
  rcases HP.out with ⟨h1,rfl⟩ | ⟨h1,h2,rfl⟩ | ⟨h1,h2,HG⟩
  ·clear HP
   have hl:decide ((N0:Int) + 1 < R.size) = false:=decide_eq_false (by omega)
   go_wp2_with fail
   go_meet
   exact ⟨rfl,rfl⟩
  ·clear HP
   have hl:decide ((N0:Int) + 1 < R.size) = true:=decide_eq_true (by omega)
   have h3:N0 < R.size:=by omega
   go_wp2_with fail
   go_meet
   exact ⟨rfl,rfl⟩
  ·clear HP
   have hl:decide ((N0:Int) + 1 < R.size) = true:=decide_eq_true (by omega)
   have h3:N0 < R.size:=by omega
   go_wp2_with (go_at_call 134;refine (HG.out _).mono ?_;rintro e w' ⟨rfl,rfl⟩)
   go_meet
   exact ⟨rfl,rfl⟩
 case rest =>
 obtain ⟨rfl,rfl⟩:=hcut
 clear HP HN
 go_upto_if 67 with (fail)
 go_cut [8] from 68 to 75 (fun s8 wx=>s8 = .int .i64 (n:Nat) ∧ wx = wc)
 case first =>
  clear HS HX HR
  rcases HQ.out with ⟨rfl,rfl⟩ | ⟨rfl,h1,m,HM,rfl⟩
  ·clear HQ
   go_wp2_with fail
   go_meet
   exact ⟨rfl,rfl⟩
  ·clear HQ
   go_wp2_with (go_at_call 126;refine (HM.out _).mono ?_;rintro e w' ⟨rfl,rfl⟩)
   go_meet
   exact ⟨by first | rfl | (congr 1;omega),rfl⟩
 case rest =>
  obtain ⟨rfl,rfl⟩:=hcut
  clear HQ
  go_wp2_with fail
  refine (HX.out _).mono ?_;rintro e w2 ⟨rfl,hb2⟩
  have HF2:=Lib.hid (HF1.out.below hb2)
  clear hb2 HF1 c0 c1 f0 f1 hl0 d0 d1 d2 d3 g0 g1 g2 g3 hl1 p0 p1 q0 q1 hl2 m0 m1 m2 m3 n0 n1 n2 n3 hl3
  obtain ⟨c0,c1,f0,f1,hl0⟩:=HF2.out.sc.cells
  obtain ⟨d0,d1,d2,d3,g0,g1,g2,g3,hl1⟩:=HF2.out.r1.cells
  obtain ⟨p0,p1,q0,q1,hl2⟩:=HF2.out.r2.cells
  obtain ⟨m0,m1,m2,m3,n0,n1,n2,n3,hl3⟩:=HF2.out.tk.cells
  rcases HS.out with ⟨h1,rfl⟩ | ⟨rfl,h1,rfl⟩ | ⟨rfl,h1,HG,rfl⟩ | ⟨rfl,h1,HG,h2,rfl⟩ | ⟨rfl,h1,HG,h2,rfl⟩
  ·clear HS
   have h2:(er == 0) = false:=beq_eq_false_iff_ne.2 h1
   go_wp2_with fail
   go_region
   all_goals
    go_wp2
    have hT:=HF2.out.out 0 ⟨#[]⟩ 0 a s a
    obtain ⟨e0,e1,e2,e3,_⟩:=hT.r1.cells
    obtain ⟨e4,e5,_⟩:=hT.r2.cells
    exact bodyPost_ret (v:=.tuple #[tkV 0 ⟨#[]⟩ 0 a,scV s a,.int .i64 1802]) (by simp [results,Tryz.results96,go_sem,e0,e1,e2,e3,e4,e5]) rfl ⟨rfl,hT.bl⟩
  ·clear HS
   have hl:decide ((n:Int) < R.size) = false:=decide_eq_false (by omega)
   go_wp2_with fail
   have HO:=Lib.hid (fun W=>on_any s a n W (by omega))
   go_region
   go_wp2
   have HF1:=Lib.hid (HF2.out.put3 2 T x).drew'
   clear HF2
   have hF2:=HF1.out
   generalize (((w2.setCell ⟨w.heap.size + 1 + 1 + 1,0,none⟩ (.int .i64 2)).setCell ⟨w.heap.size + 1 + 1 + 1,1,none⟩ (.string T)).setCell ⟨w.heap.size + 1 + 1 + 1,2,none⟩ (.float .f64 x)).drew = w5 at hF2 ⊢
   have HF2:=Lib.hid hF2
   clear hF2 HF1 c0 c1 f0 f1 hl0 d0 d1 d2 d3 g0 g1 g2 g3 hl1 p0 p1 q0 q1 hl2 m0 m1 m2 m3 n0 n1 n2 n3 hl3
   obtain ⟨c0,c1,f0,f1,hl0⟩:=HF2.out.sc.cells
   obtain ⟨d0,d1,d2,d3,g0,g1,g2,g3,hl1⟩:=HF2.out.r1.cells
   obtain ⟨p0,p1,q0,q1,hl2⟩:=HF2.out.r2.cells
   obtain ⟨m0,m1,m2,m3,n0,n1,n2,n3,hl3⟩:=HF2.out.tk.cells
   go_region_with (go_at_call 131;refine (HO.out _).mono ?_;rintro e w3 ⟨rfl,hb3⟩;have hF3:TF w s a 2 T x w3:=(by first | exact HF2.out.below hb3 | exact HF2.out.drew'.below hb3);clear hb3;obtain ⟨a0,a1,a2,a3,b0,b1,b2,b3,k1⟩:=hF3.r1.cells;obtain ⟨a4,a5,b4,b5,k2⟩:=hF3.r2.cells;obtain ⟨a6,a7,a8,a9,b6,b7,b8,b9,k3⟩:=hF3.tk.cells;obtain ⟨y0,y1,y2,y3,k4⟩:=hF3.sc.cells;have HF3:=Lib.hid hF3;clear hF3)
   all_goals
    go_wp2
    rw [show ((a:Int) + (n:Int)) = ((a + n:Nat):Int) by omega]
    have hT:=HF3.out.outN 2 T x a s (a + n)
    change bodyPost _ _ _ _ _ (outW w w3 2 T x a s (a + n))
    generalize outW w w3 2 T x a s (a + n) = W at hT ⊢
    obtain ⟨e0,e1,e2,e3,_⟩:=hT.r1.cells
    obtain ⟨e4,e5,_⟩:=hT.r2.cells
    exact bodyPost_ret (v:=.tuple #[tkV 2 T x a,scV s ((a + n:Nat):Int),.int .i64 0]) (by simp [results,Tryz.results96,go_sem,e0,e1,e2,e3,e4,e5]) rfl ⟨rfl,hT.bl⟩
  ·clear HS
   have hl:decide ((n:Int) < R.size) = true:=decide_eq_true (by omega)
   go_wp2_with (go_at_call 132;refine (HG.out _).mono ?_;rintro e w' ⟨rfl,rfl⟩)
   go_region
   all_goals
    go_wp2
    have hT:=HF2.out.out 0 ⟨#[]⟩ 0 a s a
    obtain ⟨e0,e1,e2,e3,_⟩:=hT.r1.cells
    obtain ⟨e4,e5,_⟩:=hT.r2.cells
    exact bodyPost_ret (v:=.tuple #[tkV 0 ⟨#[]⟩ 0 a,scV s a,.int .i64 1802]) (by simp [results,Tryz.results96,go_sem,e0,e1,e2,e3,e4,e5]) rfl ⟨rfl,hT.bl⟩
  ·clear HS
   have hl:decide ((n:Int) < R.size) = true:=decide_eq_true (by omega)
   go_wp2_with (go_at_call 132;refine (HG.out _).mono ?_;rintro e w' ⟨rfl,rfl⟩)
   go_region
   all_goals
    go_wp2
    have hT:=HF2.out.out 0 ⟨#[]⟩ 0 a s a
    obtain ⟨e0,e1,e2,e3,_⟩:=hT.r1.cells
    obtain ⟨e4,e5,_⟩:=hT.r2.cells
    exact bodyPost_ret (v:=.tuple #[tkV 0 ⟨#[]⟩ 0 a,scV s a,.int .i64 1802]) (by simp [results,Tryz.results96,go_sem,e0,e1,e2,e3,e4,e5]) rfl ⟨rfl,hT.bl⟩
  ·clear HS
   have hl:decide ((n:Int) < R.size) = true:=decide_eq_true (by omega)
   go_wp2_with (go_at_call 132;refine (HG.out _).mono ?_;rintro e w' ⟨rfl,rfl⟩)
   have HO:=Lib.hid (fun W=>on_any s a n W (by omega))
   go_region
   go_wp2
   have HF1:=Lib.hid (HF2.out.put3 2 T x).drew'
   clear HF2
   have hF2:=HF1.out
   generalize (((w2.setCell ⟨w.heap.size + 1 + 1 + 1,0,none⟩ (.int .i64 2)).setCell ⟨w.heap.size + 1 + 1 + 1,1,none⟩ (.string T)).setCell ⟨w.heap.size + 1 + 1 + 1,2,none⟩ (.float .f64 x)).drew = w5 at hF2 ⊢
   have HF2:=Lib.hid hF2
   clear hF2 HF1 c0 c1 f0 f1 hl0 d0 d1 d2 d3 g0 g1 g2 g3 hl1 p0 p1 q0 q1 hl2 m0 m1 m2 m3 n0 n1 n2 n3 hl3
   obtain ⟨c0,c1,f0,f1,hl0⟩:=HF2.out.sc.cells
   obtain ⟨d0,d1,d2,d3,g0,g1,g2,g3,hl1⟩:=HF2.out.r1.cells
   obtain ⟨p0,p1,q0,q1,hl2⟩:=HF2.out.r2.cells
   obtain ⟨m0,m1,m2,m3,n0,n1,n2,n3,hl3⟩:=HF2.out.tk.cells
   go_region_with (go_at_call 131;refine (HO.out _).mono ?_;rintro e w3 ⟨rfl,hb3⟩;have hF3:TF w s a 2 T x w3:=(by first | exact HF2.out.below hb3 | exact HF2.out.drew'.below hb3);clear hb3;obtain ⟨a0,a1,a2,a3,b0,b1,b2,b3,k1⟩:=hF3.r1.cells;obtain ⟨a4,a5,b4,b5,k2⟩:=hF3.r2.cells;obtain ⟨a6,a7,a8,a9,b6,b7,b8,b9,k3⟩:=hF3.tk.cells;obtain ⟨y0,y1,y2,y3,k4⟩:=hF3.sc.cells;have HF3:=Lib.hid hF3;clear hF3)
   all_goals
    go_wp2
    rw [show ((a:Int) + (n:Int)) = ((a + n:Nat):Int) by omega]
    have hT:=HF3.out.outN 2 T x a s (a + n)
    change bodyPost _ _ _ _ _ (outW w w3 2 T x a s (a + n))
    generalize outW w w3 2 T x a s (a + n) = W at hT ⊢
    obtain ⟨e0,e1,e2,e3,_⟩:=hT.r1.cells
    obtain ⟨e4,e5,_⟩:=hT.r2.cells
    exact bodyPost_ret (v:=.tuple #[tkV 2 T x a,scV s ((a + n:Nat):Int),.int .i64 0]) (by simp [results,Tryz.results96,go_sem,e0,e1,e2,e3,e4,e5]) rfl ⟨rfl,hT.bl⟩
def signsL:List (List UInt8) := [[61,61],[123],[125],[40],[41],[59],[44],[61],[60],[43],[45],[42],[47],[37],[38],[33]]
def signsT:ByteArray:=⟨#[61,61,32,123,32,125,32,40,32,41,32,59,32,44,32,61,32,60,32,43,32,45,32,42,32,47,32,37,32,38,32,33]⟩
theorem signs_fields:Lib.fields signsT.data.toList = signsL:=by decide +kernel
def sigV (s:ByteArray) (a:Nat) (l:List UInt8):Value:=match signsL.find? (fun g=>Lib.hasPrefix l g) with
 | some g=>.tuple #[tkV 4 ⟨g.toArray⟩ 0 a,scV s ((a + g.length:Nat):Int),.int .i64 0]
 | none=>.tuple #[tkV 0 ⟨#[]⟩ 0 a,scV s a,.int .i64 1800]
theorem find_at {p:List UInt8 → Bool} {l:List (List UInt8)} {j:Nat} {g:List UInt8} (hg:l[j]? = some g) (hj:∀ i q,i < j → l[i]? = some q → p q = false) (hp:p g = true):l.find? p = some g:=by
 induction l generalizing j with
 | nil=>simp at hg
 | cons x r ih =>
  cases j with
  | zero=>simp at hg;subst hg;simp [hp]
  | succ j =>
   have h0:=hj 0 x (by omega) rfl
   rw [List.find?_cons,h0]
   exact ih (j:=j) (by simpa using hg) (fun i q hi hq=>hj (i + 1) q (by omega) (by simpa using hq))
theorem find_no {p:List UInt8 → Bool} {l:List (List UInt8)} (hj:∀ i q,i < l.length → l[i]? = some q → p q = false):l.find? p = none:=by
 rw [List.find?_eq_none]
 intro q hq
 obtain ⟨i,hi,rfl⟩:=List.getElem_of_mem hq
 rw [hj i _ hi (List.getElem?_eq_getElem hi)]
 exact Bool.false_ne_true
theorem sigs_le (j:Nat) (g:List UInt8) (h:signsL[j]? = some g):1 ≤ g.length ∧ g.length ≤ 2:=by
 have h2:∀ q ∈ signsL,1 ≤ q.length ∧ q.length ≤ 2:=by decide
 exact h2 g (List.mem_of_getElem? h)
def SgAt (w:World) (b:Nat):Prop:=w.heap[b]? = some (.cells (signsL.map fun l=>Value.string ⟨l.toArray⟩).toArray 9 (0,0))
theorem SgAt.cell {w:World} {b j:Nat} {g:List UInt8} (h:SgAt w b) (hg:signsL[j]? = some g):w.cell? ⟨b,j,none⟩ = some (.string ⟨g.toArray⟩):=by
 rw [blk_cell h,List.getElem?_toArray,List.getElem?_map,hg];rfl
set_option maxHeartbeats 4000000 in
theorem tk_sign (s R:ByteArray) (a:Nat) (w:World) (hz:R.size ≤ 1000000000) (ha:a + R.size ≤ 2000000000) (h0:0 < R.size) (hE:R.toList.isEmpty = false) (HR:Hid (∀ W,Calls Tryz.prog 127 #[scV s a] W fun e w'=>e = .returned (.string R) ∧ Below W.heap.size W w'))
  (HL:Hid (∀ W,Calls Tryz.prog 132 #[.int .u8 (R[0].toNat:Int)] W fun e w'=>e = .returned (.bool false) ∧ W = w')) (HD:Hid (∀ W,Calls Tryz.prog 134 #[.int .u8 (R[0].toNat:Int)] W fun e w'=>e = .returned (.bool false) ∧ W = w')) (hq:((R[0].toNat:Int) == 34) = false) (HFi:Hid (∀ W,Below w.heap.size w W → Calls Tryz.prog 137 #[.string signsT] W fun e w'=>e = .returned (.slice (some ⟨W.heap.size,0,none⟩) 16 16) ∧ SgAt w' W.heap.size ∧ Below W.heap.size W w')) :
  Calls Tryz.prog 96 #[scV s a] w fun e w'=>e = .returned (sigV s a R.data.toList) ∧ Below w.heap.size w w':=by
 have HF:=Lib.hid (TF.start w s a)
 go_enter Tryz.func96,Tryz.ntmps96
 go_wp2_with fail
 refine (HR.out (w4 w s a)).mono ?_
 rintro e w1 ⟨rfl,hb1⟩
 have HF1:=Lib.hid (HF.out.below hb1)
 clear hb1 HF
 obtain ⟨c0,c1,f0,f1,hl0⟩:=HF1.out.sc.cells
 obtain ⟨d0,d1,d2,d3,g0,g1,g2,g3,hl1⟩:=HF1.out.r1.cells
 obtain ⟨p0,p1,q0,q1,hl2⟩:=HF1.out.r2.cells
 obtain ⟨m0,m1,m2,m3,n0,n1,n2,n3,hl3⟩:=HF1.out.tk.cells
 go_wp2_with (first | (go_at_call 132;refine (HL.out _).mono ?_;rintro e w' ⟨rfl,rfl⟩) | (go_at_call 134;refine (HD.out _).mono ?_;rintro e w' ⟨rfl,rfl⟩))
 have HBW:=Lib.hid HF1.out.bl
 refine (HFi.out w1 HBW.out).mono ?_;rintro e w2 ⟨rfl,hsg,hb2⟩
 have HF2:=Lib.hid (HF1.out.below hb2)
 have HSG:=Lib.hid hsg
 generalize hB2:w1.heap.size = B2 at *
 clear hB2 hb2 hsg HFi HBW HF1 c0 c1 f0 f1 hl0 d0 d1 d2 d3 g0 g1 g2 g3 hl1 p0 p1 q0 q1 hl2 m0 m1 m2 m3 n0 n1 n2 n3 hl3
 obtain ⟨c0,c1,f0,f1,hl0⟩:=HF2.out.sc.cells
 obtain ⟨d0,d1,d2,d3,g0,g1,g2,g3,hl1⟩:=HF2.out.r1.cells
 obtain ⟨p0,p1,q0,q1,hl2⟩:=HF2.out.r2.cells
 obtain ⟨m0,m1,m2,m3,n0,n1,n2,n3,hl3⟩:=HF2.out.tk.cells
 go_wp2_with fail
 go_loopw [14,138] (fun _ i wr=>∃ j:Nat,j ≤ 16 ∧ i = .int .i64 j ∧ Hid (w2 = wr ∧ ∀ k q,k < j → signsL[k]? = some q → Lib.hasPrefix R.data.toList q = false)) (fun _ i _=>16 - (intOf i).toNat)
 case atStart=>exact ⟨0,by omega,rfl,⟨rfl,fun k q hk _=>absurd hk (Nat.not_lt_zero _)⟩⟩
 case round =>
  obtain ⟨j,hj,rfl,hr⟩:=hrel
  obtain ⟨rfl,hno⟩:=hr.out
  have HNO:=Lib.hid hno
  clear hr hno
  by_cases hlt:j < 16
  ·obtain ⟨g,hg⟩:∃ g,signsL[j]? = some g:=⟨_,List.getElem?_eq_getElem (by exact hlt)⟩
   obtain ⟨hgl,hgl2⟩:=sigs_le j g hg
   have kc:=HSG.out.cell hg
   have HG:=Lib.hid hg
   have HH:Hid (∀ W,Calls Tryz.prog 129 #[.string R,.string ⟨g.toArray⟩] W fun e w'=>e = .returned (.bool (Lib.hasPrefix R.data.toList g)) ∧ W = w'):=fun W=>by
    have:=Tryz.strings_HasPrefix R ⟨g.toArray⟩ W
    exact this.mono fun e w' h=>⟨h.1,h.2.symm⟩
   have hgs:(⟨g.toArray⟩:ByteArray).size = g.length:=flt.str_size g
   clear hg
   cases hh:Lib.hasPrefix R.data.toList g
   ·rw [hh] at HH
    go_wp2_with (go_at_call 129;refine (HH.out _).mono ?_;rintro e w' ⟨rfl,rfl⟩)
    go_roundw
    case rel=>exact ⟨j + 1,by omega,by go_num,⟨by first | rfl | trivial,fun k q hk hq=>by
     rcases Nat.lt_succ_iff_lt_or_eq.1 hk with h | rfl
     ·exact HNO.out k q h hq
     ·rw [HG.out] at hq;cases hq;exact hh⟩⟩
    case measure=>simp [intOf];omega
   ·rw [hh] at HH
    have HV:Hid (sigV s a R.data.toList = .tuple #[tkV 4 ⟨g.toArray⟩ 0 a,scV s ((a + g.length:Nat):Int),.int .i64 0]):=by
     unfold Hid sigV
     rw [find_at HG.out (fun i q hi hq=>HNO.out i q hi hq) hh]
    have HO:=Lib.hid (fun W=>on_any s a g.length W (by omega))
    clear hh HNO HG
    go_wp2_with (go_at_call 129;refine (HH.out _).mono ?_;rintro e w' ⟨rfl,rfl⟩)
    have HF1:=Lib.hid (HF2.out.put2 4 ⟨g.toArray⟩)
    clear HF2
    have hF2:=HF1.out
    generalize (w2.setCell ⟨w.heap.size + 1 + 1 + 1,0,none⟩ (.int .i64 4)).setCell ⟨w.heap.size + 1 + 1 + 1,1,none⟩ (.string ⟨g.toArray⟩) = w5 at hF2 ⊢
    have HF2:=Lib.hid hF2
    clear hF2 HF1 c0 c1 f0 f1 hl0 d0 d1 d2 d3 g0 g1 g2 g3 hl1 p0 p1 q0 q1 hl2 m0 m1 m2 m3 n0 n1 n2 n3 hl3
    obtain ⟨c0,c1,f0,f1,hl0⟩:=HF2.out.sc.cells
    obtain ⟨d0,d1,d2,d3,g0,g1,g2,g3,hl1⟩:=HF2.out.r1.cells
    obtain ⟨p0,p1,q0,q1,hl2⟩:=HF2.out.r2.cells
    obtain ⟨m0,m1,m2,m3,n0,n1,n2,n3,hl3⟩:=HF2.out.tk.cells
    go_region_with (go_at_call 131;refine (HO.out _).mono ?_;rintro e w3 ⟨rfl,hb3⟩;have hF3:TF w s a 4 ⟨g.toArray⟩ 0 w3:=(by first | exact HF2.out.below hb3 | exact HF2.out.drew'.below hb3);clear hb3;obtain ⟨a0,a1,a2,a3,b0,b1,b2,b3,k1⟩:=hF3.r1.cells;obtain ⟨a4,a5,b4,b5,k2⟩:=hF3.r2.cells;obtain ⟨a6,a7,a8,a9,b6,b7,b8,b9,k3⟩:=hF3.tk.cells;obtain ⟨y0,y1,y2,y3,k4⟩:=hF3.sc.cells;have HF3:=Lib.hid hF3;clear hF3)
    all_goals
     go_wp2
     rw [show ((a:Int) + (g.length:Int)) = ((a + g.length:Nat):Int) by omega]
     have hT:=HF3.out.outN 4 ⟨g.toArray⟩ 0 a s (a + g.length)
     change bodyPost _ _ _ _ _ (outW w w3 4 ⟨g.toArray⟩ 0 a s (a + g.length))
     generalize outW w w3 4 ⟨g.toArray⟩ 0 a s (a + g.length) = W at hT ⊢
     obtain ⟨e0,e1,e2,e3,_⟩:=hT.r1.cells
     obtain ⟨e4,e5,_⟩:=hT.r2.cells
     exact bodyPost_ret (v:=.tuple #[tkV 4 ⟨g.toArray⟩ 0 a,scV s ((a + g.length:Nat):Int),.int .i64 0]) (by simp [results,Tryz.results96,go_sem,e0,e1,e2,e3,e4,e5]) rfl ⟨by rw [HV.out],hT.bl⟩
  ·have HV:Hid (sigV s a R.data.toList = .tuple #[tkV 0 ⟨#[]⟩ 0 a,scV s a,.int .i64 1800]):=by
    unfold Hid sigV
    rw [find_no (fun i q hi hq => HNO.out i q (by have : signsL.length = 16 := rfl
                                                  omega) hq)]
   clear HNO
   go_wp2_with fail
   go_region
   all_goals
    go_wp2
    have hT:=HF2.out.out 0 ⟨#[]⟩ 0 a s a
    obtain ⟨e0,e1,e2,e3,_⟩:=hT.r1.cells
    obtain ⟨e4,e5,_⟩:=hT.r2.cells
    exact bodyPost_ret (v:=.tuple #[tkV 0 ⟨#[]⟩ 0 a,scV s a,.int .i64 1800]) (by simp [results,Tryz.results96,go_sem,e0,e1,e2,e3,e4,e5]) rfl ⟨by rw [HV.out],hT.bl⟩
end Go.Proofs.YtmfpmandkhiknaaGreatDoor.lex
