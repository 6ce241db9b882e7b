/-
  Proved: what the small functions of the document's scanner return. Conditions: as each theorem says.
  Proved: what the document's quoted returns (written by wip/bin/lex14.py). Conditions: as each theorem says.
  Proved: what the document's next returns (written by wip/bin/lex15.py). Conditions: as each theorem says.
  Proved: what the document's next and Scan and Tokens return (written by wip/bin/lex16.py). Conditions: as each theorem says.
  Proved: what the document's Scan and Tokens return, of every text. Conditions: as each theorem says.
-/
import Derived.Test.YtmfpmandkhiknaaGreatDoorPw7
import Derived.Test.YtmfpmandkhiknaaGreatDoorPw8
import Derived.Test.YtmfpmandkhiknaaGreatDoorPw29
import Derived.Deep.CutRange
import Derived.Deep.CutBlock
set_option linter.unusedVariables false
set_option linter.unusedSimpArgs false
namespace Go.Proofs.YtmfpmandkhiknaaGreatDoor.lex
open Go.RowKit
open flt (isD)
open heap
open num (list_len drop_cons)
set_option maxRecDepth 100000
theorem rl_eq (c:UInt8):letB c = ((decide (97 ≤ (c.toNat:Int)) && decide ((c.toNat:Int) ≤ 122)) || (decide (65 ≤ (c.toNat:Int)) && decide ((c.toNat:Int) ≤ 90)) || ((c.toNat:Int) == 95)):=
 all_u8 (q:=fun c=>((decide (97 ≤ (c.toNat:Int)) && decide ((c.toNat:Int) ≤ 122)) || (decide (65 ≤ (c.toNat:Int)) && decide ((c.toNat:Int) ≤ 90)) || ((c.toNat:Int) == 95))) (by decide +kernel) c
theorem rd_eq (c:UInt8):isD c = (decide (48 ≤ (c.toNat:Int)) && decide ((c.toNat:Int) ≤ 57)):=
 all_u8 (q:=fun c=>(decide (48 ≤ (c.toNat:Int)) && decide ((c.toNat:Int) ≤ 57))) (by decide +kernel) c
theorem rlet_any (c:UInt8) (w:World):Calls Tryz.prog 141 #[.int .u8 c.toNat] w fun e w'=>e = .returned (.bool (letB c)) ∧ w = w':=by
 have HE:=Lib.hid (rl_eq c)
 cases h1:decide (97 ≤ (c.toNat:Int)) <;> cases h2:decide ((c.toNat:Int) ≤ 122) <;> cases h3:decide (65 ≤ (c.toNat:Int)) <;> cases h4:decide ((c.toNat:Int) ≤ 90) <;> cases h5:((c.toNat:Int) == 95) <;> rw [h1,h2,h3,h4,h5] at HE <;>
 ·go_enter Tryz.func141,Tryz.ntmps141
  go_wp2_with fail
  go_ret
  exact ⟨by rw [HE.out];rfl,rfl⟩
theorem rdig_any (c:UInt8) (w:World):Calls Tryz.prog 142 #[.int .u8 c.toNat] w fun e w'=>e = .returned (.bool (isD c)) ∧ w = w':=by
 have HE:=Lib.hid (rd_eq c)
 cases h1:decide (48 ≤ (c.toNat:Int)) <;> cases h2:decide ((c.toNat:Int) ≤ 57) <;> rw [h1,h2] at HE <;>
 ·go_enter Tryz.func142,Tryz.ntmps142
  go_wp2_with fail
  go_ret
  exact ⟨by rw [HE.out];rfl,rfl⟩
theorem skT (s:ByteArray) (q:Nat) (h:q < s.size) (he:s[q] = 35):skp false (s.data.toList.drop q) = skp true (s.data.toList.drop q):=by
 rw [drop_cons s q h,he,skp,if_neg (by decide),if_pos rfl,skp,if_neg (by decide)]
theorem skT_no (s:ByteArray) (q:Nat) (h:q < s.size) (he:s[q] ≠ 10):skp true (s.data.toList.drop q) = skp true (s.data.toList.drop (q + 1)) + 1:=by
 rw [drop_cons s q h,skp,if_neg he]
theorem skT_nl (s:ByteArray) (q:Nat) (h:q < s.size) (he:s[q] = 10):skp true (s.data.toList.drop q) = skp false (s.data.toList.drop q):=by
 rw [drop_cons s q h,he];simp [skp,blankB]
theorem skT_end (b:Bool) (s:ByteArray) (q:Nat) (h:s.size ≤ q):skp b (s.data.toList.drop q) = 0:=by
 rw [List.drop_eq_nil_of_le (by rw [list_len];exact h),skp]
theorem skF_yes (s:ByteArray) (q:Nat) (h:q < s.size) (he:blankB s[q] = true):skp false (s.data.toList.drop q) = skp false (s.data.toList.drop (q + 1)) + 1:=by
 rw [drop_cons s q h,skp,if_pos he]
theorem skF_no (s:ByteArray) (q:Nat) (h:q < s.size) (he:blankB s[q] = false) (h2:s[q] ≠ 35):skp false (s.data.toList.drop q) = 0:=by
 rw [drop_cons s q h,skp,if_neg (by rw [he];exact Bool.false_ne_true),if_neg h2]
set_option maxHeartbeats 1000000 in
theorem rblanks_any (s:ByteArray) (a:Nat) (w:World) (ha:a ≤ s.size) (hs:s.size ≤ 1000000000000000001) :
  Calls Tryz.prog 104 #[.string s,.int .i64 a] w fun e w'=>e = .returned (.int .i64 ((a + skp false (s.data.toList.drop a):Nat):Int)) ∧ w = w':=by
 go_enter Tryz.func104,Tryz.ntmps104
 go_wp2_with fail
 go_loop [1] (fun i=>∃ q:Nat,i = .int .i64 q ∧ q ≤ s.size ∧ Hid (a + skp false (s.data.toList.drop a) = q + skp false (s.data.toList.drop q))) (fun i=>s.size - (intOf i).toNat)
 case atStart=>exact ⟨a,rfl,ha,rfl⟩
 case round =>
  obtain ⟨q,rfl,hq,HQ⟩:=hrel
  by_cases hlt:q < s.size
  ·have HY:=Lib.hid (skF_yes s q hlt)
   have HB:Hid (blankB s[q] = iB (s[q].toNat:Int)):=blank_eq s[q]
   unfold iB at HB
   cases h1:((s[q].toNat:Int) == 32) with
   | true =>
    have HN:Hid (a + skp false (s.data.toList.drop a) = (q + 1) + skp false (s.data.toList.drop (q + 1))):=by
     unfold Hid;rw [HQ.out,HY.out (by rw [HB.out,h1];rfl)];omega
    go_wp2_with fail
    go_round
    case rel=>exact ⟨q + 1,by go_num,by omega,HN⟩
    case measure=>simp [intOf];omega
   | false =>
    cases h2:((s[q].toNat:Int) == 9) with
    | true =>
     have HN:Hid (a + skp false (s.data.toList.drop a) = (q + 1) + skp false (s.data.toList.drop (q + 1))):=by
      unfold Hid;rw [HQ.out,HY.out (by rw [HB.out,h1,h2];rfl)];omega
     go_wp2_with fail
     go_round
     case rel=>exact ⟨q + 1,by go_num,by omega,HN⟩
     case measure=>simp [intOf];omega
    | false =>
     cases h3:((s[q].toNat:Int) == 10) with
     | true =>
      have HN:Hid (a + skp false (s.data.toList.drop a) = (q + 1) + skp false (s.data.toList.drop (q + 1))):=by
       unfold Hid;rw [HQ.out,HY.out (by rw [HB.out,h1,h2,h3];rfl)];omega
      go_wp2_with fail
      go_round
      case rel=>exact ⟨q + 1,by go_num,by omega,HN⟩
      case measure=>simp [intOf];omega
     | false =>
      cases h4:((s[q].toNat:Int) == 13) with
      | true =>
       have HN:Hid (a + skp false (s.data.toList.drop a) = (q + 1) + skp false (s.data.toList.drop (q + 1))):=by
        unfold Hid;rw [HQ.out,HY.out (by rw [HB.out,h1,h2,h3,h4];rfl)];omega
       go_wp2_with fail
       go_round
       case rel=>exact ⟨q + 1,by go_num,by omega,HN⟩
       case measure=>simp [intOf];omega
      | false =>
       have hbf:blankB s[q] = false:=by rw [HB.out,h1,h2,h3,h4];rfl
       cases h5:((s[q].toNat:Int) == 35) with
       | false =>
        have HN:Hid (a + skp false (s.data.toList.drop a) = q):=by
         unfold Hid;rw [HQ.out,skF_no s q hlt hbf (u8_ne (n:=35) (by decide) h5)];rfl
        clear hbf HB HY
        go_wp2_with fail
        go_ret
        exact ⟨ret_i (by have:=HN.out;omega),rfl⟩
       | true =>
        have HT:Hid (a + skp false (s.data.toList.drop a) = q + skp true (s.data.toList.drop q)):=by
         unfold Hid;rw [HQ.out,skT s q hlt (u8_eq (n:=35) (by decide) h5)]
        have HNE:Hid (s[q] ≠ 10):=u8_ne (n:=10) (by decide) h3
        clear hbf HB HY
        go_wp2_with fail
        go_loop [1] (fun i=>∃ p:Nat,i = .int .i64 p ∧ q ≤ p ∧ p ≤ s.size ∧ Hid (a + skp false (s.data.toList.drop a) = p + skp true (s.data.toList.drop p))) (fun i=>s.size - (intOf i).toNat)
        case atStart=>exact ⟨q,rfl,Nat.le_refl _,hq,HT⟩
        case round =>
         obtain ⟨p,rfl,hqp,hp,HP⟩:=hrel
         by_cases hl2:p < s.size
         ·cases h6:((s[p].toNat:Int) == 10) with
          | false =>
           have h7:((s[p].toNat:Int) != 10) = true:=by rw [bne,h6];rfl
           have HN:Hid (a + skp false (s.data.toList.drop a) = (p + 1) + skp true (s.data.toList.drop (p + 1))):=by
            unfold Hid;rw [HP.out,skT_no s p hl2 (u8_ne (n:=10) (by decide) h6)];omega
           go_wp2_with fail
           go_round
           case rel=>exact ⟨p + 1,by go_num,by omega,by omega,HN⟩
           case measure=>simp [intOf];omega
          | true =>
           have h7:((s[p].toNat:Int) != 10) = false:=by rw [bne,h6];rfl
           have HN:Hid (a + skp false (s.data.toList.drop a) = p + skp false (s.data.toList.drop p)):=by
            unfold Hid;rw [HP.out,skT_nl s p hl2 (u8_eq (n:=10) (by decide) h6)]
           have hne:q ≠ p:=by
            intro e;subst e
            exact HNE.out (u8_eq (n:=10) (by decide) h6)
           go_wp2_with fail
           go_round
           case rel=>exact ⟨p,by go_num,by omega,HN⟩
           case measure=>simp [intOf];omega
         ·have HN:Hid (a + skp false (s.data.toList.drop a) = p + skp false (s.data.toList.drop p)):=by
           unfold Hid;rw [HP.out,skT_end true s p (by omega),skT_end false s p (by omega)]
          go_wp2_with fail
          go_round
          case rel=>exact ⟨p,by go_num,by omega,HN⟩
          case measure=>simp [intOf];omega
  ·have HN:Hid (a + skp false (s.data.toList.drop a) = q):=by
    unfold Hid;rw [HQ.out,skT_end false s q (by omega)];rfl
   go_wp2_with fail
   go_ret
   exact ⟨ret_i (by have:=HN.out;omega),rfl⟩
end Go.Proofs.YtmfpmandkhiknaaGreatDoor.lex
namespace Go.Proofs.YtmfpmandkhiknaaGreatDoor.lex
open Go.RowKit
open flt (isD str_size)
open heap
open num (list_len drop_cons infoU8)
set_option maxRecDepth 100000
attribute [local go_sem] run_store_float
def bV (c:UInt8):Value:=.int .u8 (c.toNat:Int)
def BRow (w:World) (base:Nat) (v:Value) (l:List UInt8):Prop:=w.ownsRow base 5 1 v l.length (l.map bV)
theorem BRow.slice {w:World} {base:Nat} {v:Value} {l:List UInt8} (h:BRow w base v l):∃ a c,v = .slice a l.length c:=by
 obtain ⟨_,⟨h,h0⟩ | ⟨_,_,_,h,_⟩⟩:=h
 ·exact ⟨none,0,by rw [h,h0]⟩
 ·exact ⟨_,_,h⟩
theorem brow_kept {w w':World} {base:Nat} {v:Value} {l:List UInt8} (h:BRow w base v l) (hk:∀ g o,v.ownBlock = some g → w.heap[g]? = some o → w'.heap[g]? = some o):BRow w' base v l:=by
 obtain ⟨hl,h1 | ⟨g,c,cur,rfl,h2,h3,h4⟩⟩:=h
 ·exact ⟨hl,.inl h1⟩
 ·exact ⟨hl,.inr ⟨g,c,cur,rfl,h2,hk g _ rfl h3,h4⟩⟩
theorem BRow.below {w w':World} {base:Nat} {v:Value} {l:List UInt8} (h:BRow w base v l) (hb:Below w.heap.size w w'):BRow w' base v l:=brow_kept h (fun g o hg ho=>blk_below ho hb)
theorem BRow.conv {w:World} {base:Nat} {v:Value} {l:List UInt8} (h:BRow w base v l):(convert 58 9 v).run Tryz.prog w = .ok (.string ⟨l.toArray⟩) w:=by
 have hcl := @World.ownsRow.cells _ _ _ _ _ _ _ h
 obtain ⟨hl,⟨hv,h0⟩ | ⟨g,c,cur,hv,h2,h3,h4,h5,h6⟩⟩:=h
 ·obtain rfl:l = []:=List.length_eq_zero_iff.1 h0
  rw [hv]
  exact run_convert_bytes_nil w 58 5 Tryz.underlying58 Tryz.underlying5 0 0 9 Tryz.underlying9
 ·rw [hv]
  refine run_convert_bytes_back w 58 9 5 ⟨g,0,none⟩ c l Tryz.underlying58 Tryz.underlying5 Tryz.underlying9 (fun j hj => ?_)
  have:=hcl (g:=g) (by rw [hv];rfl) j (bV (l.getD j 0)) (by
   rw [List.getElem?_map,List.getD_eq_getElem?_getD,List.getElem?_eq_getElem hj];rfl)
  simpa [bV,hj] using this
theorem app_byte (B g:Nat) (v:Value) (l:List UInt8) (c:UInt8) (w:World) (h:BRow w B v l) (hg:w.heap[g]? = some (.cells #[bV c] 5 (0,0))) (hB:B ≤ w.heap.size) (hn:l.length ≤ 1000000000000) :
  ∃ v2 w2,(Builtin.append_ #[58,58] 58 #[v,.slice (some ⟨g,0,none⟩) 1 1]).run Tryz.prog w = .ok v2 w2 ∧ BRow w2 B v2 (l ++ [c]) ∧ Turned v.ownBlock.toList w w2:=by
 obtain ⟨i0,hi,hz0,hz1,hz2⟩:=info_parts infoU8
 obtain ⟨v2,w2,hrun,hown,hgr,_⟩:=run_append_own (P:=Tryz.prog) w B 58 58 5 i0 _ 1 1 Tryz.underlying58 hi hz0 hz1 hz2 rfl (by decide) v l.length _ h ⟨g,0,none⟩ 1 1 [bV c] rfl (fun j u hu=>by rw [add0,blk_cell hg];simpa using hu) (by simp [bV,Value.oneCell']) (by unfold maxLen;omega) (by omega) hB
 refine ⟨v2,w2,hrun,?_,⟨hgr.os,hgr.tape,hgr.output,hgr.size,fun b hb hn=>hgr.block b hb (fun e=>hn (by simp [← e]))⟩⟩
 unfold BRow
 rw [List.length_append,List.map_append]
 exact hown
theorem round_byte (w wr:World) (v:Value) (acc:List UInt8) (c:UInt8) (hT:TkAt wr w.heap.size 0 ⟨#[]⟩ 0 0) (hrow:BRow wr (w.heap.size + 1) v acc) (hbl:Below w.heap.size w wr) (hn:acc.length ≤ 1000000000000) :
  ∃ v2 w5,(Builtin.append_ #[58,58] 58 #[v,.slice (some ⟨wr.heap.size,0,none⟩) 1 1]).run Tryz.prog (wr.alloc (.cells #[bV c] 5)) = .ok v2 w5 ∧ BRow w5 (w.heap.size + 1) v2 (acc ++ [c]) ∧
   TkAt w5 w.heap.size 0 ⟨#[]⟩ 0 0 ∧ Below w.heap.size w w5:=by
 have hlt:w.heap.size < wr.heap.size:=blk_lt hT
 have b1:Below wr.heap.size wr (wr.alloc (.cells #[bV c] 5)):=(Below.refl _ _).alloc (Nat.le_refl _) _
 have hown:∀ g ∈ v.ownBlock.toList,w.heap.size + 1 ≤ g:=fun g hg=>(World.ownsRow.lt hrow g (by simpa using hg)).1
 obtain ⟨v2,w5,h1,h2,h3⟩:=app_byte (w.heap.size + 1) wr.heap.size v acc c _ (hrow.below b1) (blk_new _ _) (by simp;omega) hn
 refine ⟨v2,w5,h1,h2,h3.kept (hT.below b1) (fun hm=>by have:=hown _ hm;omega),?_⟩
 exact (hbl.trans (b1.mono (by omega))).trans (h3.below (by simp;omega) (fun g hg=>by have:=hown g hg;omega))
def QtAt (s:ByteArray) (a q:Nat) (acc:List UInt8):Prop:=a + 1 ≤ q ∧ acc.length ≤ q ∧ qtS false (s.data.toList.drop (a + 1)) = (qtS false (s.data.toList.drop q)).map fun x=>(acc ++ x.1,q - (a + 1) + x.2)
theorem QtAt.quote {s:ByteArray} {a i:Nat} {acc:List UInt8} (h:QtAt s a i acc) (hi:i < s.size) (hc:s[i] = 34):qtS false (s.data.toList.drop (a + 1)) = some (acc,i - a):=by
 rw [h.2.2,drop_cons s i hi,hc]
 have e:qtS false (34 :: s.data.toList.drop (i + 1)) = some ([],1):=by simp [qtS]
 rw [e]
 have:=h.1
 simp only [Option.map_some,List.append_nil]
 rw [show i - (a + 1) + 1 = i - a by omega]
theorem QtAt.nil' {s:ByteArray} {a i:Nat} {acc:List UInt8} (h:QtAt s a i acc) (hn:qtS false (s.data.toList.drop i) = none):qtS false (s.data.toList.drop (a + 1)) = none:=by rw [h.2.2,hn];rfl
theorem QtAt.low {s:ByteArray} {a i:Nat} {acc:List UInt8} (h:QtAt s a i acc) (hi:i < s.size) (h1:s[i] ≠ 34) (hc:s[i].toNat < 32):qtS false (s.data.toList.drop (a + 1)) = none:=by
 refine h.nil' ?_
 rw [drop_cons s i hi,qtS,if_neg h1,if_pos hc]
theorem QtAt.over {s:ByteArray} {a i:Nat} {acc:List UInt8} (h:QtAt s a i acc) (hi:s.size ≤ i):qtS false (s.data.toList.drop (a + 1)) = none:=by
 refine h.nil' ?_
 rw [List.drop_eq_nil_of_le (by rw [list_len];exact hi)];rfl
theorem QtAt.step {s:ByteArray} {a i:Nat} {acc:List UInt8} (h:QtAt s a i acc) (hi:i < s.size) (h1:s[i] ≠ 34) (hc:¬ s[i].toNat < 32) (h2:s[i] ≠ 92):QtAt s a (i + 1) (acc ++ [s[i]]):=by
 have:=h.1
 refine ⟨by omega,by have:=h.2.1;simp;omega,?_⟩
 rw [h.2.2,drop_cons s i hi,qtS,if_neg h1,if_neg hc,if_neg h2,Option.map_map]
 congr 1
 funext x
 simp only [Function.comp,List.append_assoc,List.singleton_append,Prod.mk.injEq,true_and]
 omega
theorem QtAt.end' {s:ByteArray} {a i:Nat} {acc:List UInt8} (h:QtAt s a i acc) (hi:i < s.size) (h2:s[i] = 92) (he:s.size ≤ i + 1):qtS false (s.data.toList.drop (a + 1)) = none:=by
 refine h.nil' ?_
 rw [drop_cons s i hi,h2,List.drop_eq_nil_of_le (by rw [list_len];exact he)]
 decide
theorem QtAt.esc {s:ByteArray} {a i:Nat} {acc:List UInt8} {e:UInt8} (h:QtAt s a i acc) (hi:i + 1 < s.size) (h2:s[i] = 92) (he:escB s[i + 1] = some e):QtAt s a (i + 2) (acc ++ [e]):=by
 have:=h.1
 refine ⟨by omega,by have:=h.2.1;simp;omega,?_⟩
 rw [h.2.2,drop_cons s i (by omega),h2,drop_cons s (i + 1) hi]
 have e1:∀ r:List UInt8,qtS false (92 :: s[i + 1] :: r) = (qtS false r).map fun x=>(e :: x.1,x.2 + 2):=by
  intro r
  rw [qtS,if_neg (by decide),if_neg (by decide),if_pos rfl,qtS,he]
  simp only [Option.map_map]
  rfl
 rw [e1,Option.map_map]
 congr 1
 funext x
 simp only [Function.comp,List.append_assoc,List.singleton_append,Prod.mk.injEq,true_and]
 omega
theorem QtAt.noesc {s:ByteArray} {a i:Nat} {acc:List UInt8} (h:QtAt s a i acc) (hi:i + 1 < s.size) (h2:s[i] = 92) (he:escB s[i + 1] = none):qtS false (s.data.toList.drop (a + 1)) = none:=by
 refine h.nil' ?_
 rw [drop_cons s i (by omega),h2,drop_cons s (i + 1) hi,qtS,if_neg (by decide),if_neg (by decide),if_pos rfl,qtS,he]
 rfl
abbrev badV (e:Int):Value:=.tuple #[tkV 0 ⟨#[]⟩ 0 0,.int .i64 0,.int .i64 e]
def quV (s:ByteArray) (a:Nat):Value:=match qtS false (s.data.toList.drop (a + 1)) with
 | none=>badV 1801
 | some x=>if 1024 < x.1.length then badV 1801 else .tuple #[tkV 3 ⟨x.1.toArray⟩ 0 a,.int .i64 ((a + 1 + x.2:Nat):Int),.int .i64 0]
theorem quV_none {s:ByteArray} {a:Nat} (h:qtS false (s.data.toList.drop (a + 1)) = none):quV s a = badV 1801:=by unfold quV;rw [h]
abbrev tkW (w:World) (b:Nat) (k:Int) (t:ByteArray) (x a:Nat):World:=(((w.setCell ⟨b,0,none⟩ (.int .i64 k)).setCell ⟨b,1,none⟩ (.string t)).setCell ⟨b,2,none⟩ (.float .f64 x)).setCell ⟨b,3,none⟩ (.int .i64 a)
theorem tkW_below {w0 w:World} (h:Below w0.heap.size w0 w) (k:Int) (t:ByteArray) (x a:Nat):Below w0.heap.size w0 (tkW w w0.heap.size k t x a):=(((h.setCell (Nat.le_refl _) _).setCell (Nat.le_refl _) _).setCell (Nat.le_refl _) _).setCell (Nat.le_refl _) _
set_option maxHeartbeats 4000000 in
theorem quoted_any (s:ByteArray) (a:Nat) (w:World) (ha:a < s.size) (hs:s.size ≤ 1000000000) :
  Calls Tryz.prog 144 #[.string s,.int .i64 a] w fun e w'=>e = .returned (quV s a) ∧ Below w.heap.size w w':=by
 have HN1:=Lib.hid (fun h => @quV_none s a h)
 have HN2:Hid (∀ acc m,qtS false (s.data.toList.drop (a + 1)) = some (acc,m) → quV s a = if 1024 < acc.length then badV 1801 else .tuple #[tkV 3 ⟨acc.toArray⟩ 0 a,.int .i64 ((a + 1 + m:Nat):Int),.int .i64 0]):=fun acc m h=>by unfold quV;rw [h]
 have HAT:Hid (QtAt s a (a + 1) []):=by
  refine ⟨Nat.le_refl _,by simp,?_⟩
  cases qtS false (s.data.toList.drop (a + 1)) <;> simp
 have HT0:Hid (TkAt (w.alloc (.cells #[.int .i64 0,.string ⟨#[]⟩,.float .f64 0,.int .i64 0] 98)) w.heap.size 0 ⟨#[]⟩ 0 0):=blk_new _ _
 go_enter Tryz.func144,Tryz.ntmps144
 go_wp2_with fail
 go_loopw [7,8,9] (fun vo vi _ wr=>∃ (q:Nat) (acc:List UInt8),vi = .int .i64 q ∧ q ≤ s.size ∧ Hid (QtAt s a q acc ∧ BRow wr (w.heap.size + 1) vo acc ∧ TkAt wr w.heap.size 0 ⟨#[]⟩ 0 0 ∧ Below w.heap.size w wr)) (fun _ vi _ _=>s.size - (intOf vi).toNat)
 case atStart=>exact ⟨a + 1,[],by go_num,by omega,⟨HAT.out,World.ownsRow_nil _ _ _ _,HT0.out,(Below.refl _ _).alloc (Nat.le_refl _) _⟩⟩
 case round =>
  obtain ⟨q,acc,rfl,hq,hr⟩:=hrel
  obtain ⟨hqt,hrow,htk,hbl⟩:=hr.out
  obtain ⟨a1,c1,rfl⟩:=hrow.slice
  have hac:=hqt.2.1
  have HQ:=Lib.hid hqt
  have HROW:=Lib.hid hrow
  have HT:=Lib.hid htk
  have HBL:=Lib.hid hbl
  obtain ⟨d0,d1,d2,d3,g0,g1,g2,g3,hl1⟩:=htk.cells
  clear hr hqt hrow htk hbl HAT HT0
  by_cases hlt:q < s.size
  ·cases q34:((s[q].toNat:Int) == 34)
   ·have n34:=Lib.hid (u8_ne (n:=34) (by decide) q34)
    have b34:((s[q].toNat:Int) != 34) = true:=by rw [bne,q34];rfl
    cases q32:decide ((s[q].toNat:Int) < 32)
    ·have g32:Hid (¬ s[q].toNat < 32):=by have:=of_decide_eq_false q32;unfold Hid;omega
     cases q92:((s[q].toNat:Int) == 92)
     ·have n92:=Lib.hid (u8_ne (n:=92) (by decide) q92)
      have HNX:=Lib.hid (HQ.out.step hlt n34.out g32.out n92.out)
      obtain ⟨v2,w5,hrun,hrow5,htk5,hbl5⟩:=round_byte w wr _ acc s[q] HT.out HROW.out HBL.out (by omega)
      have HRUN:Hid ((Builtin.append_ #[58,58] 58 #[.slice a1 acc.length c1,.slice (some ⟨wr.heap.size,0,none⟩) 1 1]).run Tryz.prog (wr.alloc (.cells #[.int .u8 (s[q].toNat:Int)] 5)) = .ok v2 w5):=hrun
      have HR5:=Lib.hid hrow5
      have HT5:=Lib.hid htk5
      have HB5:=Lib.hid hbl5
      clear hrun hrow5 htk5 hbl5 d0 d1 d2 d3 g0 g1 g2 g3 hl1
      go_wp2_with (at_builtin;refine reg.wpList_append rfl rfl rfl rfl rfl HRUN.out ?_)
      go_roundw
      case rel=>exact ⟨q + 1,_,by go_num,by omega,⟨HNX.out,HR5.out,HT5.out,HB5.out⟩⟩
      case measure=>simp [intOf];omega
     ·have e92:=Lib.hid (u8_eq (n:=92) (by decide) q92)
      by_cases hl2:q + 1 < s.size
      ·have hl3:decide ((s.size:Int) ≤ (q:Int) + 1) = false:=decide_eq_false (by omega)
       cases x34:((s[q + 1].toNat:Int) == 34)
       ·cases x92:((s[q + 1].toNat:Int) == 92)
        ·cases x110:((s[q + 1].toNat:Int) == 110)
         ·cases x116:((s[q + 1].toNat:Int) == 116)
          ·have hno:escB s[q + 1] = none:=by
            unfold escB
            rw [if_neg (show s[q + 1] ≠ 34 from u8_ne (n:=34) (by decide) x34),if_neg (show s[q + 1] ≠ 92 from u8_ne (n:=92) (by decide) x92),if_neg (show s[q + 1] ≠ 110 from u8_ne (n:=110) (by decide) x110),if_neg (show s[q + 1] ≠ 116 from u8_ne (n:=116) (by decide) x116)]
           have HN:Hid (quV s a = badV 1801):=HN1.out (HQ.out.noesc hl2 e92.out hno)
           clear hno
           go_wp2_with fail
           have hT:=HT.out.set4 0 ⟨#[]⟩ 0 0
           have hB:=tkW_below HBL.out 0 ⟨#[]⟩ 0 0
           change bodyPost _ _ _ _ _ (tkW wr w.heap.size 0 ⟨#[]⟩ 0 0)
           change TkAt (tkW wr w.heap.size 0 ⟨#[]⟩ 0 0) _ _ _ _ _ at hT
           generalize tkW wr w.heap.size 0 ⟨#[]⟩ 0 0 = W at hT hB ⊢
           obtain ⟨e0,e1,e2,e3,_⟩:=hT.cells
           exact bodyPost_ret (v:=badV 1801) (by simp [results,Tryz.results144,go_sem,e0,e1,e2,e3]) rfl ⟨by rw [HN.out],hB⟩
          ·have hE:escB s[q + 1] = some 9:=by
            rw [u8_eq (n:=116) (by decide) x116];decide
           have hSt:=HQ.out.esc hl2 e92.out hE
           have HSt:=Lib.hid hSt
           clear hE hSt
           have HNX:=Lib.hid (HSt.out)
           obtain ⟨v2,w5,hrun,hrow5,htk5,hbl5⟩:=round_byte w wr _ acc 9 HT.out HROW.out HBL.out (by omega)
           have HRUN:Hid ((Builtin.append_ #[58,58] 58 #[.slice a1 acc.length c1,.slice (some ⟨wr.heap.size,0,none⟩) 1 1]).run Tryz.prog (wr.alloc (.cells #[.int .u8 9] 5)) = .ok v2 w5):=hrun
           have HR5:=Lib.hid hrow5
           have HT5:=Lib.hid htk5
           have HB5:=Lib.hid hbl5
           clear hrun hrow5 htk5 hbl5 d0 d1 d2 d3 g0 g1 g2 g3 hl1
           go_wp2_with (at_builtin;refine reg.wpList_append rfl rfl rfl rfl rfl HRUN.out ?_)
           go_roundw
           case rel=>exact ⟨q + 2,_,by go_num,by omega,⟨HNX.out,HR5.out,HT5.out,HB5.out⟩⟩
           case measure=>simp [intOf];omega
         ·have hE:escB s[q + 1] = some 10:=by
           rw [u8_eq (n:=110) (by decide) x110];decide
          have hSt:=HQ.out.esc hl2 e92.out hE
          have HSt:=Lib.hid hSt
          clear hE hSt
          have HNX:=Lib.hid (HSt.out)
          obtain ⟨v2,w5,hrun,hrow5,htk5,hbl5⟩:=round_byte w wr _ acc 10 HT.out HROW.out HBL.out (by omega)
          have HRUN:Hid ((Builtin.append_ #[58,58] 58 #[.slice a1 acc.length c1,.slice (some ⟨wr.heap.size,0,none⟩) 1 1]).run Tryz.prog (wr.alloc (.cells #[.int .u8 10] 5)) = .ok v2 w5):=hrun
          have HR5:=Lib.hid hrow5
          have HT5:=Lib.hid htk5
          have HB5:=Lib.hid hbl5
          clear hrun hrow5 htk5 hbl5 d0 d1 d2 d3 g0 g1 g2 g3 hl1
          go_wp2_with (at_builtin;refine reg.wpList_append rfl rfl rfl rfl rfl HRUN.out ?_)
          go_roundw
          case rel=>exact ⟨q + 2,_,by go_num,by omega,⟨HNX.out,HR5.out,HT5.out,HB5.out⟩⟩
          case measure=>simp [intOf];omega
        ·have hE:escB s[q + 1] = some s[q + 1]:=by
          rw [u8_eq (n:=92) (by decide) x92];decide
         have hSt:=HQ.out.esc hl2 e92.out hE
         have HSt:=Lib.hid hSt
         clear hE hSt
         have HNX:=Lib.hid (HSt.out)
         obtain ⟨v2,w5,hrun,hrow5,htk5,hbl5⟩:=round_byte w wr _ acc s[q + 1] HT.out HROW.out HBL.out (by omega)
         have HRUN:Hid ((Builtin.append_ #[58,58] 58 #[.slice a1 acc.length c1,.slice (some ⟨wr.heap.size,0,none⟩) 1 1]).run Tryz.prog (wr.alloc (.cells #[.int .u8 (s[q + 1].toNat:Int)] 5)) = .ok v2 w5):=hrun
         have HR5:=Lib.hid hrow5
         have HT5:=Lib.hid htk5
         have HB5:=Lib.hid hbl5
         clear hrun hrow5 htk5 hbl5 d0 d1 d2 d3 g0 g1 g2 g3 hl1
         go_wp2_with (at_builtin;refine reg.wpList_append rfl rfl rfl rfl rfl HRUN.out ?_)
         go_roundw
         case rel=>exact ⟨q + 2,_,by go_num,by omega,⟨HNX.out,HR5.out,HT5.out,HB5.out⟩⟩
         case measure=>simp [intOf];omega
       ·have hE:escB s[q + 1] = some s[q + 1]:=by
         rw [u8_eq (n:=34) (by decide) x34];decide
        have hSt:=HQ.out.esc hl2 e92.out hE
        have HSt:=Lib.hid hSt
        clear hE hSt
        have HNX:=Lib.hid (HSt.out)
        obtain ⟨v2,w5,hrun,hrow5,htk5,hbl5⟩:=round_byte w wr _ acc s[q + 1] HT.out HROW.out HBL.out (by omega)
        have HRUN:Hid ((Builtin.append_ #[58,58] 58 #[.slice a1 acc.length c1,.slice (some ⟨wr.heap.size,0,none⟩) 1 1]).run Tryz.prog (wr.alloc (.cells #[.int .u8 (s[q + 1].toNat:Int)] 5)) = .ok v2 w5):=hrun
        have HR5:=Lib.hid hrow5
        have HT5:=Lib.hid htk5
        have HB5:=Lib.hid hbl5
        clear hrun hrow5 htk5 hbl5 d0 d1 d2 d3 g0 g1 g2 g3 hl1
        go_wp2_with (at_builtin;refine reg.wpList_append rfl rfl rfl rfl rfl HRUN.out ?_)
        go_roundw
        case rel=>exact ⟨q + 2,_,by go_num,by omega,⟨HNX.out,HR5.out,HT5.out,HB5.out⟩⟩
        case measure=>simp [intOf];omega
      ·have hl3:decide ((s.size:Int) ≤ (q:Int) + 1) = true:=decide_eq_true (by omega)
       have HN:Hid (quV s a = badV 1801):=HN1.out (HQ.out.end' hlt e92.out (by omega))
       go_wp2_with fail
       have hT:=HT.out.set4 0 ⟨#[]⟩ 0 0
       have hB:=tkW_below HBL.out 0 ⟨#[]⟩ 0 0
       change bodyPost _ _ _ _ _ (tkW wr w.heap.size 0 ⟨#[]⟩ 0 0)
       change TkAt (tkW wr w.heap.size 0 ⟨#[]⟩ 0 0) _ _ _ _ _ at hT
       generalize tkW wr w.heap.size 0 ⟨#[]⟩ 0 0 = W at hT hB ⊢
       obtain ⟨e0,e1,e2,e3,_⟩:=hT.cells
       exact bodyPost_ret (v:=badV 1801) (by simp [results,Tryz.results144,go_sem,e0,e1,e2,e3]) rfl ⟨by rw [HN.out],hB⟩
    ·have g32:Hid (s[q].toNat < 32):=by have:=of_decide_eq_true q32;unfold Hid;omega
     have HN:Hid (quV s a = badV 1801):=HN1.out (HQ.out.low hlt n34.out g32.out)
     go_wp2_with fail
     have hT:=HT.out.set4 0 ⟨#[]⟩ 0 0
     have hB:=tkW_below HBL.out 0 ⟨#[]⟩ 0 0
     change bodyPost _ _ _ _ _ (tkW wr w.heap.size 0 ⟨#[]⟩ 0 0)
     change TkAt (tkW wr w.heap.size 0 ⟨#[]⟩ 0 0) _ _ _ _ _ at hT
     generalize tkW wr w.heap.size 0 ⟨#[]⟩ 0 0 = W at hT hB ⊢
     obtain ⟨e0,e1,e2,e3,_⟩:=hT.cells
     exact bodyPost_ret (v:=badV 1801) (by simp [results,Tryz.results144,go_sem,e0,e1,e2,e3]) rfl ⟨by rw [HN.out],hB⟩
   ·have e34:=Lib.hid (u8_eq (n:=34) (by decide) q34)
    have b34:((s[q].toNat:Int) != 34) = false:=by rw [bne,q34];rfl
    have HX:=Lib.hid (HN2.out _ _ (HQ.out.quote hlt e34.out))
    have haq:=HQ.out.1
    have hge:decide ((s.size:Int) ≤ (q:Int)) = false:=decide_eq_false (by omega)
    by_cases hbig:1024 < acc.length
    ·have hd:decide (1024 < (acc.length:Int)) = true:=decide_eq_true (by omega)
     have HN:Hid (quV s a = badV 1801):=by unfold Hid;rw [HX.out,if_pos hbig]
     go_wp2_with fail
     have hT:=HT.out.set4 0 ⟨#[]⟩ 0 0
     have hB:=tkW_below HBL.out 0 ⟨#[]⟩ 0 0
     change bodyPost _ _ _ _ _ (tkW wr w.heap.size 0 ⟨#[]⟩ 0 0)
     change TkAt (tkW wr w.heap.size 0 ⟨#[]⟩ 0 0) _ _ _ _ _ at hT
     generalize tkW wr w.heap.size 0 ⟨#[]⟩ 0 0 = W at hT hB ⊢
     obtain ⟨e0,e1,e2,e3,_⟩:=hT.cells
     exact bodyPost_ret (v:=badV 1801) (by simp [results,Tryz.results144,go_sem,e0,e1,e2,e3]) rfl ⟨by rw [HN.out],hB⟩
    ·have hd:decide (1024 < (acc.length:Int)) = false:=decide_eq_false (by omega)
     have HN:Hid (quV s a = .tuple #[tkV 3 ⟨acc.toArray⟩ 0 a,.int .i64 ((q:Int) + 1),.int .i64 0]):=by
      unfold Hid;rw [HX.out,if_neg hbig,show ((a + 1 + (q - a):Nat):Int) = (q:Int) + 1 by omega]
     have hcv:=HROW.out.conv
     clear hbig
     go_wp2_with fail
     have hT:=HT.out.set4 3 ⟨acc.toArray⟩ 0 a
     have hB:=tkW_below HBL.out 3 ⟨acc.toArray⟩ 0 a
     change bodyPost _ _ _ _ _ (tkW wr w.heap.size 3 ⟨acc.toArray⟩ 0 a)
     change TkAt (tkW wr w.heap.size 3 ⟨acc.toArray⟩ 0 a) _ _ _ _ _ at hT
     generalize tkW wr w.heap.size 3 ⟨acc.toArray⟩ 0 a = W at hT hB ⊢
     obtain ⟨e0,e1,e2,e3,_⟩:=hT.cells
     exact bodyPost_ret (v:=.tuple #[tkV 3 ⟨acc.toArray⟩ 0 a,.int .i64 ((q:Int) + 1),.int .i64 0]) (by simp [results,Tryz.results144,go_sem,e0,e1,e2,e3]) rfl ⟨by rw [HN.out],hB⟩
  ·have hge:decide ((s.size:Int) ≤ (q:Int)) = true:=decide_eq_true (by omega)
   have HN:Hid (quV s a = badV 1801):=HN1.out (HQ.out.over (by omega))
   go_wp2_with fail
   have hT:=HT.out.set4 0 ⟨#[]⟩ 0 0
   have hB:=tkW_below HBL.out 0 ⟨#[]⟩ 0 0
   change bodyPost _ _ _ _ _ (tkW wr w.heap.size 0 ⟨#[]⟩ 0 0)
   change TkAt (tkW wr w.heap.size 0 ⟨#[]⟩ 0 0) _ _ _ _ _ at hT
   generalize tkW wr w.heap.size 0 ⟨#[]⟩ 0 0 = W at hT hB ⊢
   obtain ⟨e0,e1,e2,e3,_⟩:=hT.cells
   exact bodyPost_ret (v:=badV 1801) (by simp [results,Tryz.results144,go_sem,e0,e1,e2,e3]) rfl ⟨by rw [HN.out],hB⟩
end Go.Proofs.YtmfpmandkhiknaaGreatDoor.lex
namespace Go.Proofs.YtmfpmandkhiknaaGreatDoor.lex
open Go.RowKit
open flt (isD fv ofT str_size rofT rofE rOfText_any of_same)
open heap
open num (list_len drop_cons)
set_option maxRecDepth 100000
attribute [local go_sem] run_store_float
def nxV (a:Nat) (t:List UInt8):Value:=match tok t with
 | .error e=>badV e
 | .ok x=>.tuple #[tkV x.1 ⟨x.2.1.toArray⟩ x.2.2.1 a,.int .i64 ((a + x.2.2.2:Nat):Int),.int .i64 0]
abbrev nW (w:World):World:=w.alloc (.cells #[.int .i64 0,.string ⟨#[]⟩,.float .f64 0,.int .i64 0] 98)
theorem nW_at (w:World):TkAt (nW w) w.heap.size 0 ⟨#[]⟩ 0 0:=blk_new _ _
theorem nW_below (w:World):Below w.heap.size w (nW w):=(Below.refl _ _).alloc (Nat.le_refl _) _
theorem ext_mid (s:ByteArray) (a n:Nat):s.extract a (a + n) = ⟨((s.data.toList.drop a).take n).toArray⟩:=by
 apply ByteArray.ext
 apply Array.toList_inj.1
 rw [ByteArray.data_extract,Array.toList_extract,List.extract_eq_take_drop]
 simp
theorem getD_at (s:ByteArray) (a i:Nat) (h:a + i < s.size):(s.data.toList.drop a).getD i 0 = s[a + i]:=by
 rw [List.getD_eq_getElem?_getD,List.getElem?_drop,List.getElem?_eq_getElem (by rw [list_len];exact h)]
 rfl
theorem drop_ne (s:ByteArray) (a:Nat) (h:a < s.size):s.data.toList.drop a ≠ []:=by
 rw [Ne,List.drop_eq_nil_iff,list_len];omega
theorem rb_step (p:UInt8 → Bool) (s:ByteArray) (q:Nat) (h:q < s.size) (hp:p s[q] = true):runB p (s.data.toList.drop q) = runB p (s.data.toList.drop (q + 1)) + 1:=by
 rw [drop_cons s q h,runB_yes hp]
theorem rb_stop (p:UInt8 → Bool) (s:ByteArray) (q:Nat) (h:q < s.size) (hp:p s[q] = false):runB p (s.data.toList.drop q) = 0:=by
 rw [drop_cons s q h,runB_no hp]
theorem rb_end (p:UInt8 → Bool) (s:ByteArray) (q:Nat) (h:s.size ≤ q):runB p (s.data.toList.drop q) = 0:=by
 rw [List.drop_eq_nil_of_le (by rw [list_len];exact h)];rfl
set_option maxHeartbeats 4000000 in
theorem nx_name (s:ByteArray) (a:Nat) (w:World) (ha:a < s.size) (hs:s.size ≤ 1000000000) (HL:Hid (∀ W,Calls Tryz.prog 141 #[.int .u8 (s[a].toNat:Int)] W fun e w'=>e = .returned (.bool true) ∧ W = w')) (hl:letB s[a] = true) (HV:Hid (∀ n,runB wordB (s.data.toList.drop a) = n → (32 < n → nxV a (s.data.toList.drop a) = badV 1800) ∧ (¬ 32 < n → nxV a (s.data.toList.drop a) = .tuple #[tkV 1 (s.extract a (a + n)) 0 a,.int .i64 ((a + n:Nat):Int),.int .i64 0]))) :
  Calls Tryz.prog 105 #[.string s,.int .i64 a] w fun e w'=>e = .returned (nxV a (s.data.toList.drop a)) ∧ Below w.heap.size w w':=by
 obtain ⟨d0,d1,d2,d3,g0,g1,g2,g3,hl1⟩:=(nW_at w).cells
 have HS:Hid (runB wordB (s.data.toList.drop a) = (a + 1 - a) + runB wordB (s.data.toList.drop (a + 1))):=by
  unfold Hid;rw [rb_step wordB s a ha (by unfold wordB;rw [hl];rfl)];omega
 clear hl
 go_enter Tryz.func105,Tryz.ntmps105
 go_wp2_with (go_at_call 141;refine (HL.out _).mono ?_;rintro e w' ⟨rfl,rfl⟩)
 go_loop [8] (fun i=>∃ q:Nat,i = .int .i64 q ∧ a < q ∧ q ≤ s.size ∧ Hid (runB wordB (s.data.toList.drop a) = (q - a) + runB wordB (s.data.toList.drop q))) (fun i=>s.size - (intOf i).toNat)
 case atStart=>exact ⟨a + 1,by go_num,by omega,by omega,HS⟩
 case round =>
  obtain ⟨q,rfl,haq,hq,HQ⟩:=hrel
  by_cases hlt:q < s.size
  ·have HL2:Hid (∀ W,Calls Tryz.prog 141 #[.int .u8 (s[q].toNat:Int)] W fun e w'=>e = .returned (.bool (letB s[q])) ∧ W = w'):=fun W=>rlet_any s[q] W
   have HD2:Hid (∀ W,Calls Tryz.prog 142 #[.int .u8 (s[q].toNat:Int)] W fun e w'=>e = .returned (.bool (isD s[q])) ∧ W = w'):=fun W=>rdig_any s[q] W
   cases h1:letB s[q] with
   | true =>
    rw [h1] at HL2
    have hw:wordB s[q] = true:=by unfold wordB;rw [h1];rfl
    have HN:Hid (runB wordB (s.data.toList.drop a) = (q + 1 - a) + runB wordB (s.data.toList.drop (q + 1))):=by
     unfold Hid;rw [HQ.out,rb_step wordB s q hlt hw];omega
    clear hw
    go_wp2_with (first | (go_at_call 141;refine (HL2.out _).mono ?_;rintro e w' ⟨rfl,rfl⟩) | (go_at_call 142;refine (HD2.out _).mono ?_;rintro e w' ⟨rfl,rfl⟩))
    go_round
    case rel=>exact ⟨q + 1,by go_num,by omega,by omega,HN⟩
    case measure=>simp [intOf];omega
   | false =>
    rw [h1] at HL2
    cases h2:isD s[q] with
    | true =>
     rw [h2] at HD2
     have hw:wordB s[q] = true:=by unfold wordB;rw [h1,h2];rfl
     have HN:Hid (runB wordB (s.data.toList.drop a) = (q + 1 - a) + runB wordB (s.data.toList.drop (q + 1))):=by
      unfold Hid;rw [HQ.out,rb_step wordB s q hlt hw];omega
     clear hw
     go_wp2_with (first | (go_at_call 141;refine (HL2.out _).mono ?_;rintro e w' ⟨rfl,rfl⟩) | (go_at_call 142;refine (HD2.out _).mono ?_;rintro e w' ⟨rfl,rfl⟩))
     go_round
     case rel=>exact ⟨q + 1,by go_num,by omega,by omega,HN⟩
     case measure=>simp [intOf];omega
    | false =>
     rw [h2] at HD2
     have HN:Hid (runB wordB (s.data.toList.drop a) = q - a):=by
      unfold Hid;rw [HQ.out,rb_stop wordB s q hlt (by unfold wordB;rw [h1,h2];rfl)];rfl
     clear h1 h2
     by_cases h32:32 < q - a
     ·have HX:=Lib.hid ((HV.out (q - a) HN.out).1 h32)
      have hd:decide (32 < (q:Int) - a) = true:=decide_eq_true (by omega)
      clear h32 HV
      go_wp2_with (first | (go_at_call 141;refine (HL2.out _).mono ?_;rintro e w' ⟨rfl,rfl⟩) | (go_at_call 142;refine (HD2.out _).mono ?_;rintro e w' ⟨rfl,rfl⟩))
      have hT:TkAt (w.alloc (.cells #[.int .i64 0,.string ⟨#[]⟩,.float .f64 0,.int .i64 (0:Nat)] 98)) w.heap.size 0 ⟨#[]⟩ 0 0:=blk_new _ _
      have hB:Below w.heap.size w (w.alloc (.cells #[.int .i64 0,.string ⟨#[]⟩,.float .f64 0,.int .i64 (0:Nat)] 98)):=(Below.refl _ _).alloc (Nat.le_refl _) _
      change bodyPost _ _ _ _ _ (w.alloc (.cells #[.int .i64 0,.string ⟨#[]⟩,.float .f64 0,.int .i64 (0:Nat)] 98))
      generalize w.alloc (.cells #[.int .i64 0,.string ⟨#[]⟩,.float .f64 0,.int .i64 (0:Nat)] 98) = W at hT hB ⊢
      obtain ⟨e0,e1,e2,e3,_⟩:=hT.cells
      exact bodyPost_ret (v:=badV 1800) (by simp [results,Tryz.results105,go_sem,e0,e1,e2,e3]) rfl ⟨by rw [HX.out],hB⟩
     ·have hx:=(HV.out (q - a) HN.out).2 h32
      rw [show a + (q - a) = q by omega] at hx
      have HX:=Lib.hid hx
      have hd:decide (32 < (q:Int) - a) = false:=decide_eq_false (by omega)
      clear h32 HV hx
      go_wp2_with (first | (go_at_call 141;refine (HL2.out _).mono ?_;rintro e w' ⟨rfl,rfl⟩) | (go_at_call 142;refine (HD2.out _).mono ?_;rintro e w' ⟨rfl,rfl⟩))
      have hT:TkAt (w.alloc (.cells #[.int .i64 1,.string (s.extract a q),.float .f64 0,.int .i64 (a:Nat)] 98)) w.heap.size 1 (s.extract a q) 0 a:=blk_new _ _
      have hB:Below w.heap.size w (w.alloc (.cells #[.int .i64 1,.string (s.extract a q),.float .f64 0,.int .i64 (a:Nat)] 98)):=(Below.refl _ _).alloc (Nat.le_refl _) _
      change bodyPost _ _ _ _ _ (w.alloc (.cells #[.int .i64 1,.string (s.extract a q),.float .f64 0,.int .i64 (a:Nat)] 98))
      generalize w.alloc (.cells #[.int .i64 1,.string (s.extract a q),.float .f64 0,.int .i64 (a:Nat)] 98) = W at hT hB ⊢
      obtain ⟨e0,e1,e2,e3,_⟩:=hT.cells
      exact bodyPost_ret (v:=.tuple #[tkV 1 (s.extract a q) 0 a,.int .i64 (q:Nat),.int .i64 0]) (by simp [results,Tryz.results105,go_sem,e0,e1,e2,e3]) rfl ⟨by rw [HX.out],hB⟩
  ·have HN:Hid (runB wordB (s.data.toList.drop a) = q - a):=by
    unfold Hid;rw [HQ.out,rb_end wordB s q (by omega)];rfl
   by_cases h32:32 < q - a
   ·have HX:=Lib.hid ((HV.out (q - a) HN.out).1 h32)
    have hd:decide (32 < (q:Int) - a) = true:=decide_eq_true (by omega)
    clear h32 HV
    go_wp2_with fail
    have hT:TkAt (w.alloc (.cells #[.int .i64 0,.string ⟨#[]⟩,.float .f64 0,.int .i64 (0:Nat)] 98)) w.heap.size 0 ⟨#[]⟩ 0 0:=blk_new _ _
    have hB:Below w.heap.size w (w.alloc (.cells #[.int .i64 0,.string ⟨#[]⟩,.float .f64 0,.int .i64 (0:Nat)] 98)):=(Below.refl _ _).alloc (Nat.le_refl _) _
    change bodyPost _ _ _ _ _ (w.alloc (.cells #[.int .i64 0,.string ⟨#[]⟩,.float .f64 0,.int .i64 (0:Nat)] 98))
    generalize w.alloc (.cells #[.int .i64 0,.string ⟨#[]⟩,.float .f64 0,.int .i64 (0:Nat)] 98) = W at hT hB ⊢
    obtain ⟨e0,e1,e2,e3,_⟩:=hT.cells
    exact bodyPost_ret (v:=badV 1800) (by simp [results,Tryz.results105,go_sem,e0,e1,e2,e3]) rfl ⟨by rw [HX.out],hB⟩
   ·have hx:=(HV.out (q - a) HN.out).2 h32
    rw [show a + (q - a) = q by omega] at hx
    have HX:=Lib.hid hx
    have hd:decide (32 < (q:Int) - a) = false:=decide_eq_false (by omega)
    clear h32 HV hx
    go_wp2_with fail
    have hT:TkAt (w.alloc (.cells #[.int .i64 1,.string (s.extract a q),.float .f64 0,.int .i64 (a:Nat)] 98)) w.heap.size 1 (s.extract a q) 0 a:=blk_new _ _
    have hB:Below w.heap.size w (w.alloc (.cells #[.int .i64 1,.string (s.extract a q),.float .f64 0,.int .i64 (a:Nat)] 98)):=(Below.refl _ _).alloc (Nat.le_refl _) _
    change bodyPost _ _ _ _ _ (w.alloc (.cells #[.int .i64 1,.string (s.extract a q),.float .f64 0,.int .i64 (a:Nat)] 98))
    generalize w.alloc (.cells #[.int .i64 1,.string (s.extract a q),.float .f64 0,.int .i64 (a:Nat)] 98) = W at hT hB ⊢
    obtain ⟨e0,e1,e2,e3,_⟩:=hT.cells
    exact bodyPost_ret (v:=.tuple #[tkV 1 (s.extract a q) 0 a,.int .i64 (q:Nat),.int .i64 0]) (by simp [results,Tryz.results105,go_sem,e0,e1,e2,e3]) rfl ⟨by rw [HX.out],hB⟩
set_option maxHeartbeats 4000000 in
theorem nx_num (s:ByteArray) (a:Nat) (w:World) (ha:a < s.size) (hs:s.size ≤ 1000000000) (HL:Hid (∀ W,Calls Tryz.prog 141 #[.int .u8 (s[a].toNat:Int)] W fun e w'=>e = .returned (.bool false) ∧ W = w')) (HD:Hid (∀ W,Calls Tryz.prog 142 #[.int .u8 (s[a].toNat:Int)] W fun e w'=>e = .returned (.bool true) ∧ W = w')) (N0 n:Nat) (b:Bool) (hN0:a + runB isD (s.data.toList.drop a) = N0) (hl0:a + 1 + runB isD (s.data.toList.drop (a + 1)) = N0) (hn0:N0 ≤ s.size) (hnn:n ≤ s.size)
  (HP:Hid ((s.size ≤ N0 + 1 ∧ b = false) ∨ (∃ h:N0 + 1 < s.size,((s[N0].toNat:Int) == 46) = false ∧ b = false) ∨
   (∃ h:N0 + 1 < s.size,((s[N0].toNat:Int) == 46) = true ∧ Hid (∀ W,Calls Tryz.prog 142 #[.int .u8 (s[N0 + 1].toNat:Int)] W fun e w'=>e = .returned (.bool b) ∧ W = w'))))
  (HQ:Hid ((b = false ∧ n = N0) ∨ (b = true ∧ N0 + 1 < s.size ∧ N0 + 1 + runB isD (s.data.toList.drop (N0 + 1)) = n)))
  (T:ByteArray) (hT0:s.extract a n = T) (hle:a ≤ n) (x:Nat) (er:Int) (HX:Hid (∀ W,Calls Tryz.prog 143 #[.string T] W fun e w'=>e = .returned (.tuple #[fv x,.int .i64 er]) ∧ Below W.heap.size W w'))
  (V:Value) (HS:Hid ((er ≠ 0 ∧ V = badV 1802) ∨ (er = 0 ∧ s.size ≤ n ∧ V = (.tuple #[tkV 2 T x a,.int .i64 (n:Nat),.int .i64 0]:Value)) ∨
   (er = 0 ∧ ∃ h:n < s.size,Hid (∀ W,Calls Tryz.prog 141 #[.int .u8 (s[n].toNat:Int)] W fun e w'=>e = .returned (.bool true) ∧ W = w') ∧ V = badV 1802) ∨
   (er = 0 ∧ ∃ h:n < s.size,Hid (∀ W,Calls Tryz.prog 141 #[.int .u8 (s[n].toNat:Int)] W fun e w'=>e = .returned (.bool false) ∧ W = w') ∧ ((s[n].toNat:Int) == 46) = true ∧ V = badV 1802) ∨
   (er = 0 ∧ ∃ h:n < s.size,Hid (∀ W,Calls Tryz.prog 141 #[.int .u8 (s[n].toNat:Int)] W fun e w'=>e = .returned (.bool false) ∧ W = w') ∧ ((s[n].toNat:Int) == 46) = false ∧ V = (.tuple #[tkV 2 T x a,.int .i64 (n:Nat),.int .i64 0]:Value)))) :
  Calls Tryz.prog 105 #[.string s,.int .i64 a] w fun e w'=>e = .returned (V) ∧ Below w.heap.size w w':=by
 go_enter Tryz.func105,Tryz.ntmps105
 go_upto_block 3 with (first | (go_at_call 141;refine (HL.out _).mono ?_;rintro e w' ⟨rfl,rfl⟩) | (go_at_call 142;refine (HD.out _).mono ?_;rintro e w' ⟨rfl,rfl⟩))
 go_cut [8] from 54 to 65 (fun s8 wx=>s8 = .int .i64 (N0:Nat) ∧ wx = nW w)
 case first =>
  clear HS HX HQ HP
  go_wp2_with fail
  go_loop [8] (fun i=>∃ q:Nat,i = .int .i64 q ∧ (a + 1) ≤ q ∧ q ≤ s.size ∧ Hid (runB isD (s.data.toList.drop (a + 1)) = (q - (a + 1)) + runB isD (s.data.toList.drop q))) (fun i=>s.size - (intOf i).toNat)
  case atStart=>exact ⟨(a + 1),by go_num,by omega,by omega,by unfold Hid;omega⟩
  case round =>
   obtain ⟨q,rfl,haq,hq,HQ⟩:=hrel
   by_cases hlt:q < s.size
   ·have HD2:Hid (∀ W,Calls Tryz.prog 142 #[.int .u8 (s[q].toNat:Int)] W fun e w'=>e = .returned (.bool (isD s[q])) ∧ W = w'):=fun W=>rdig_any s[q] W
    cases h1:isD s[q] with
    | true =>
     rw [h1] at HD2
     have HN:Hid (runB isD (s.data.toList.drop (a + 1)) = (q + 1 - (a + 1)) + runB isD (s.data.toList.drop (q + 1))):=by
      unfold Hid;rw [HQ.out,rb_step isD s q hlt h1];omega
     go_wp2_with (go_at_call 142;refine (HD2.out _).mono ?_;rintro e w' ⟨rfl,rfl⟩)
     go_round
     case rel=>exact ⟨q + 1,by go_num,by omega,by omega,HN⟩
     case measure=>simp [intOf];omega
    | false =>
     rw [h1] at HD2
     have HN:Hid (runB isD (s.data.toList.drop (a + 1)) = q - (a + 1)):=by
      unfold Hid;rw [HQ.out,rb_stop isD s q hlt h1];rfl
     clear h1
     go_wp2_with (go_at_call 142;refine (HD2.out _).mono ?_;rintro e w' ⟨rfl,rfl⟩)
     go_meet
     exact ⟨by have:=HN.out;congr 1;omega,rfl⟩
   ·have HN:Hid (runB isD (s.data.toList.drop (a + 1)) = q - (a + 1)):=by
     unfold Hid;rw [HQ.out,rb_end isD s q (by omega)];rfl
    go_wp2_with fail
    go_meet
    exact ⟨by have:=HN.out;congr 1;omega,rfl⟩
 case rest =>
 obtain ⟨rfl,rfl⟩:=hcut
 go_upto_region 12 with (fail)
 go_cut [83] from 66 to 82 (fun s83 wx=>s83 = .bool b ∧ wx = nW w)
 case first =>
  clear HS HX HQ
  rcases HP.out with ⟨h1,rfl⟩ | ⟨h1,h2,rfl⟩ | ⟨h1,h2,HG⟩
  ·clear HP
   have hl:decide ((N0:Int) + 1 < s.size) = false:=decide_eq_false (by omega)
   go_wp2_with fail
   go_meet
   exact ⟨rfl,rfl⟩
  ·clear HP
   have hl:decide ((N0:Int) + 1 < s.size) = true:=decide_eq_true (by omega)
   have h3:N0 < s.size:=by omega
   go_wp2_with fail
   go_meet
   exact ⟨rfl,rfl⟩
  ·clear HP
   have hl:decide ((N0:Int) + 1 < s.size) = true:=decide_eq_true (by omega)
   have h3:N0 < s.size:=by omega
   go_wp2_with (go_at_call 142;refine (HG.out _).mono ?_;rintro e w' ⟨rfl,rfl⟩)
   go_meet
   exact ⟨rfl,rfl⟩
 case rest =>
 obtain ⟨rfl,rfl⟩:=hcut
 clear HP
 go_upto_if 83 with (fail)
 go_cut [8] from 84 to 97 (fun s8 wx=>s8 = .int .i64 (n:Nat) ∧ wx = nW w)
 case first =>
  clear HS HX
  rcases HQ.out with ⟨rfl,rfl⟩ | ⟨rfl,h1,h2⟩
  ·clear HQ
   go_wp2_with fail
   go_meet
   exact ⟨rfl,rfl⟩
  ·clear HQ
   go_wp2_with fail
   go_loop [8] (fun i=>∃ q:Nat,i = .int .i64 q ∧ (N0 + 1) ≤ q ∧ q ≤ s.size ∧ Hid (runB isD (s.data.toList.drop (N0 + 1)) = (q - (N0 + 1)) + runB isD (s.data.toList.drop q))) (fun i=>s.size - (intOf i).toNat)
   case atStart=>exact ⟨(N0 + 1),by go_num,by omega,by omega,by unfold Hid;omega⟩
   case round =>
    obtain ⟨q,rfl,haq,hq,HQ⟩:=hrel
    by_cases hlt:q < s.size
    ·have HD2:Hid (∀ W,Calls Tryz.prog 142 #[.int .u8 (s[q].toNat:Int)] W fun e w'=>e = .returned (.bool (isD s[q])) ∧ W = w'):=fun W=>rdig_any s[q] W
     cases h1:isD s[q] with
     | true =>
      rw [h1] at HD2
      have HN:Hid (runB isD (s.data.toList.drop (N0 + 1)) = (q + 1 - (N0 + 1)) + runB isD (s.data.toList.drop (q + 1))):=by
       unfold Hid;rw [HQ.out,rb_step isD s q hlt h1];omega
      go_wp2_with (go_at_call 142;refine (HD2.out _).mono ?_;rintro e w' ⟨rfl,rfl⟩)
      go_round
      case rel=>exact ⟨q + 1,by go_num,by omega,by omega,HN⟩
      case measure=>simp [intOf];omega
     | false =>
      rw [h1] at HD2
      have HN:Hid (runB isD (s.data.toList.drop (N0 + 1)) = q - (N0 + 1)):=by
       unfold Hid;rw [HQ.out,rb_stop isD s q hlt h1];rfl
      clear h1
      go_wp2_with (go_at_call 142;refine (HD2.out _).mono ?_;rintro e w' ⟨rfl,rfl⟩)
      go_meet
      exact ⟨by have:=HN.out;congr 1;omega,rfl⟩
    ·have HN:Hid (runB isD (s.data.toList.drop (N0 + 1)) = q - (N0 + 1)):=by
      unfold Hid;rw [HQ.out,rb_end isD s q (by omega)];rfl
     go_wp2_with fail
     go_meet
     exact ⟨by have:=HN.out;congr 1;omega,rfl⟩
 case rest =>
  obtain ⟨rfl,rfl⟩:=hcut
  clear HQ
  go_wp2_with fail
  refine (HX.out _).mono ?_;rintro e w2 ⟨rfl,hb2⟩
  have HT2:Hid (TkAt w2 w.heap.size 0 ⟨#[]⟩ 0 0):=(nW_at w).below hb2
  have HB2:Hid (Below w.heap.size w w2):=(nW_below w).trans (hb2.mono (by simp))
  clear hb2
  obtain ⟨d0,d1,d2,d3,g0,g1,g2,g3,hl1⟩:=HT2.out.cells
  rcases HS.out with ⟨h1,rfl⟩ | ⟨rfl,h1,rfl⟩ | ⟨rfl,h1,HG,rfl⟩ | ⟨rfl,h1,HG,h2,rfl⟩ | ⟨rfl,h1,HG,h2,rfl⟩
  ·clear HS
   have h2:(er == 0) = false:=beq_eq_false_iff_ne.2 h1
   go_wp2_with fail
   have hT:=(TkAt.set4 (w:=w2) (b:=w.heap.size) HT2.out 0 ⟨#[]⟩ 0 0)
   have hB:=tkW_below HB2.out 0 ⟨#[]⟩ 0 0
   change bodyPost _ _ _ _ _ (tkW w2 w.heap.size 0 ⟨#[]⟩ 0 0)
   change TkAt (tkW w2 w.heap.size 0 ⟨#[]⟩ 0 0) _ _ _ _ _ at hT
   generalize tkW w2 w.heap.size 0 ⟨#[]⟩ 0 0 = W at hT hB ⊢
   obtain ⟨e0,e1,e2,e3,_⟩:=hT.cells
   exact bodyPost_ret (v:=badV 1802) (by simp [results,Tryz.results105,go_sem,e0,e1,e2,e3]) rfl ⟨rfl,hB⟩
  ·clear HS
   have hl:decide ((n:Int) < s.size) = false:=decide_eq_false (by omega)
   go_wp2_with fail
   have hT:=(TkAt.set4 (w:=w2) (b:=w.heap.size) HT2.out 2 T x a)
   have hB:=tkW_below HB2.out 2 T x a
   change bodyPost _ _ _ _ _ (tkW w2 w.heap.size 2 T x a)
   change TkAt (tkW w2 w.heap.size 2 T x a) _ _ _ _ _ at hT
   generalize tkW w2 w.heap.size 2 T x a = W at hT hB ⊢
   obtain ⟨e0,e1,e2,e3,_⟩:=hT.cells
   exact bodyPost_ret (v:=(.tuple #[tkV 2 T x a,.int .i64 (n:Nat),.int .i64 0]:Value)) (by simp [results,Tryz.results105,go_sem,e0,e1,e2,e3]) rfl ⟨rfl,hB⟩
  ·clear HS
   have hl:decide ((n:Int) < s.size) = true:=decide_eq_true (by omega)
   go_wp2_with (go_at_call 141;refine (HG.out _).mono ?_;rintro e w' ⟨rfl,rfl⟩)
   have hT:=(TkAt.set4 (w:=w2) (b:=w.heap.size) HT2.out 0 ⟨#[]⟩ 0 0)
   have hB:=tkW_below HB2.out 0 ⟨#[]⟩ 0 0
   change bodyPost _ _ _ _ _ (tkW w2 w.heap.size 0 ⟨#[]⟩ 0 0)
   change TkAt (tkW w2 w.heap.size 0 ⟨#[]⟩ 0 0) _ _ _ _ _ at hT
   generalize tkW w2 w.heap.size 0 ⟨#[]⟩ 0 0 = W at hT hB ⊢
   obtain ⟨e0,e1,e2,e3,_⟩:=hT.cells
   exact bodyPost_ret (v:=badV 1802) (by simp [results,Tryz.results105,go_sem,e0,e1,e2,e3]) rfl ⟨rfl,hB⟩
  ·clear HS
   have hl:decide ((n:Int) < s.size) = true:=decide_eq_true (by omega)
   go_wp2_with (go_at_call 141;refine (HG.out _).mono ?_;rintro e w' ⟨rfl,rfl⟩)
   have hT:=(TkAt.set4 (w:=w2) (b:=w.heap.size) HT2.out 0 ⟨#[]⟩ 0 0)
   have hB:=tkW_below HB2.out 0 ⟨#[]⟩ 0 0
   change bodyPost _ _ _ _ _ (tkW w2 w.heap.size 0 ⟨#[]⟩ 0 0)
   change TkAt (tkW w2 w.heap.size 0 ⟨#[]⟩ 0 0) _ _ _ _ _ at hT
   generalize tkW w2 w.heap.size 0 ⟨#[]⟩ 0 0 = W at hT hB ⊢
   obtain ⟨e0,e1,e2,e3,_⟩:=hT.cells
   exact bodyPost_ret (v:=badV 1802) (by simp [results,Tryz.results105,go_sem,e0,e1,e2,e3]) rfl ⟨rfl,hB⟩
  ·clear HS
   have hl:decide ((n:Int) < s.size) = true:=decide_eq_true (by omega)
   go_wp2_with (go_at_call 141;refine (HG.out _).mono ?_;rintro e w' ⟨rfl,rfl⟩)
   have hT:=(TkAt.set4 (w:=w2) (b:=w.heap.size) HT2.out 2 T x a)
   have hB:=tkW_below HB2.out 2 T x a
   change bodyPost _ _ _ _ _ (tkW w2 w.heap.size 2 T x a)
   change TkAt (tkW w2 w.heap.size 2 T x a) _ _ _ _ _ at hT
   generalize tkW w2 w.heap.size 2 T x a = W at hT hB ⊢
   obtain ⟨e0,e1,e2,e3,_⟩:=hT.cells
   exact bodyPost_ret (v:=(.tuple #[tkV 2 T x a,.int .i64 (n:Nat),.int .i64 0]:Value)) (by simp [results,Tryz.results105,go_sem,e0,e1,e2,e3]) rfl ⟨rfl,hB⟩
set_option maxHeartbeats 4000000 in
theorem nx_quote (s:ByteArray) (a:Nat) (w:World) (ha:a < s.size) (hs:s.size ≤ 1000000000) (HL:Hid (∀ W,Calls Tryz.prog 141 #[.int .u8 (s[a].toNat:Int)] W fun e w'=>e = .returned (.bool false) ∧ W = w')) (HD:Hid (∀ W,Calls Tryz.prog 142 #[.int .u8 (s[a].toNat:Int)] W fun e w'=>e = .returned (.bool false) ∧ W = w')) (hq:((s[a].toNat:Int) == 34) = true) (k:Int) (t:ByteArray) (x a2:Nat) (p er:Int) (HQ:Hid (∀ W,Calls Tryz.prog 144 #[.string s,.int .i64 a] W fun e w'=>e = .returned (.tuple #[tkV k t x a2,.int .i64 p,.int .i64 er]) ∧ Below W.heap.size W w')) :
  Calls Tryz.prog 105 #[.string s,.int .i64 a] w fun e w'=>e = .returned (.tuple #[tkV k t x a2,.int .i64 p,.int .i64 er]) ∧ Below w.heap.size w w':=by
 go_enter Tryz.func105,Tryz.ntmps105
 go_wp2_with (first | (go_at_call 141;refine (HL.out _).mono ?_;rintro e w' ⟨rfl,rfl⟩) | (go_at_call 142;refine (HD.out _).mono ?_;rintro e w' ⟨rfl,rfl⟩))
 refine (HQ.out _).mono ?_;rintro e w2 ⟨rfl,hb2⟩
 have HT2:Hid (TkAt w2 w.heap.size 0 ⟨#[]⟩ 0 0):=(nW_at w).below hb2
 have HB2:Hid (Below w.heap.size w w2):=(nW_below w).trans (hb2.mono (by simp))
 clear hb2
 obtain ⟨d0,d1,d2,d3,g0,g1,g2,g3,hl1⟩:=HT2.out.cells
 go_wp2_with fail
 have hT:=(TkAt.set4 (w:=w2) (b:=w.heap.size) HT2.out k t x a2)
 have hB:=tkW_below HB2.out k t x a2
 change bodyPost _ _ _ _ _ (tkW w2 w.heap.size k t x a2)
 change TkAt (tkW w2 w.heap.size k t x a2) _ _ _ _ _ at hT
 generalize tkW w2 w.heap.size k t x a2 = W at hT hB ⊢
 obtain ⟨e0,e1,e2,e3,_⟩:=hT.cells
 exact bodyPost_ret (v:=.tuple #[tkV k t x a2,.int .i64 p,.int .i64 er]) (by simp [results,Tryz.results105,go_sem,e0,e1,e2,e3]) rfl ⟨rfl,hB⟩
set_option maxHeartbeats 4000000 in
theorem nx_punct (s:ByteArray) (a:Nat) (w:World) (ha:a < s.size) (hs:s.size ≤ 1000000000) (HL:Hid (∀ W,Calls Tryz.prog 141 #[.int .u8 (s[a].toNat:Int)] W fun e w'=>e = .returned (.bool false) ∧ W = w')) (HD:Hid (∀ W,Calls Tryz.prog 142 #[.int .u8 (s[a].toNat:Int)] W fun e w'=>e = .returned (.bool false) ∧ W = w')) (hq:((s[a].toNat:Int) == 34) = false) (b:Bool)
  (HP:Hid ((((s[a].toNat:Int) == 61) = false ∧ b = false) ∨ (((s[a].toNat:Int) == 61) = true ∧ s.size ≤ a + 1 ∧ b = false) ∨ (((s[a].toNat:Int) == 61) = true ∧ ∃ h:a + 1 < s.size,((s[a + 1].toNat:Int) == 61) = b)))
  (T:ByteArray) (hT:(⟨#[123,125,40,41,59,44,61,60,43,45,42,47,37,38,33]⟩:ByteArray) = T) (V:Value) (HV:Hid ((b = true → V = .tuple #[tkV 4 ⟨#[61,61]⟩ 0 a,.int .i64 ((a:Int) + 2),.int .i64 0]) ∧ (b = false → (∀ k (h:k < T.size),((T[k].toNat:Int) == (s[a].toNat:Int)) = true → V = .tuple #[tkV 4 (T.extract k (k + 1)) 0 a,.int .i64 ((a:Int) + 1),.int .i64 0]) ∧ ((∀ k (h:k < T.size),((T[k].toNat:Int) == (s[a].toNat:Int)) = false) → V = badV 1800)))) :
  Calls Tryz.prog 105 #[.string s,.int .i64 a] w fun e w'=>e = .returned (V) ∧ Below w.heap.size w w':=by
 have hz:T.size = 15:=by rw [← hT];rfl
 go_enter Tryz.func105,Tryz.ntmps105
 go_upto_region 22 with (first | (go_at_call 141;refine (HL.out _).mono ?_;rintro e w' ⟨rfl,rfl⟩) | (go_at_call 142;refine (HD.out _).mono ?_;rintro e w' ⟨rfl,rfl⟩))
 go_cut [157] from 146 to 156 (fun s157 wx=>s157 = .bool b ∧ wx = nW w)
 case first =>
  clear HV
  rcases HP.out with ⟨h1,rfl⟩ | ⟨h1,h2,rfl⟩ | ⟨h1,h2,rfl⟩
  ·clear HP
   go_wp2_with fail
   go_meet
   exact ⟨rfl,rfl⟩
  ·clear HP
   have hl:decide ((a:Int) + 1 < s.size) = false:=decide_eq_false (by omega)
   go_wp2_with fail
   go_meet
   exact ⟨rfl,rfl⟩
  ·clear HP
   have hl:decide ((a:Int) + 1 < s.size) = true:=decide_eq_true (by omega)
   go_wp2_with fail
   go_meet
   exact ⟨rfl,rfl⟩
 case rest =>
  obtain ⟨rfl,rfl⟩:=hcut
  clear HP
  have HN0:=Lib.hid (nW_at w)
  have HB0:=Lib.hid (nW_below w)
  generalize nW w = w2 at *
  obtain ⟨d0,d1,d2,d3,g0,g1,g2,g3,hl1⟩:=HN0.out.cells
  cases b with
  | true =>
   have HVV:=Lib.hid (HV.out.1 rfl)
   clear HV
   go_wp2_with fail
   have hT:=(TkAt.set4 (w:=w2) (b:=w.heap.size) HN0.out 4 ⟨#[61,61]⟩ 0 a)
   have hB:=tkW_below HB0.out 4 ⟨#[61,61]⟩ 0 a
   change bodyPost _ _ _ _ _ (tkW w2 w.heap.size 4 ⟨#[61,61]⟩ 0 a)
   change TkAt (tkW w2 w.heap.size 4 ⟨#[61,61]⟩ 0 a) _ _ _ _ _ at hT
   generalize tkW w2 w.heap.size 4 ⟨#[61,61]⟩ 0 a = W at hT hB ⊢
   obtain ⟨e0,e1,e2,e3,_⟩:=hT.cells
   exact bodyPost_ret (v:=.tuple #[tkV 4 ⟨#[61,61]⟩ 0 a,.int .i64 ((a:Int) + 2),.int .i64 0]) (by simp [results,Tryz.results105,go_sem,e0,e1,e2,e3]) rfl ⟨by rw [HVV.out],hB⟩
  | false =>
   have HV1:=Lib.hid (HV.out.2 rfl).1
   have HV2:=Lib.hid (HV.out.2 rfl).2
   clear HV
   go_wp2_with fail
   rw [hT]
   clear hT
   go_loop [12] (fun i=>∃ k:Nat,i = .int .i64 k ∧ k ≤ T.size ∧ Hid (∀ j (h:j < T.size),j < k → ((T[j].toNat:Int) == (s[a].toNat:Int)) = false)) (fun i=>T.size - (intOf i).toNat)
   case atStart=>exact ⟨0,rfl,by omega,fun j _ hj=>absurd hj (Nat.not_lt_zero _)⟩
   case round =>
    obtain ⟨k,rfl,hk,HNO⟩:=hrel
    by_cases hlt:k < T.size
    ·have hl15:decide ((k:Int) < T.size) = true:=decide_eq_true (by omega)
     cases hh:((T[k].toNat:Int) == (s[a].toNat:Int)) with
     | true =>
      have HVV:=Lib.hid (HV1.out k hlt hh)
      clear HV1 HV2 HNO
      go_wp2_with fail
      have hT:=(TkAt.set4 (w:=w2) (b:=w.heap.size) HN0.out 4 (T.extract k (k + 1)) 0 a)
      have hB:=tkW_below HB0.out 4 (T.extract k (k + 1)) 0 a
      change bodyPost _ _ _ _ _ (tkW w2 w.heap.size 4 (T.extract k (k + 1)) 0 a)
      change TkAt (tkW w2 w.heap.size 4 (T.extract k (k + 1)) 0 a) _ _ _ _ _ at hT
      generalize tkW w2 w.heap.size 4 (T.extract k (k + 1)) 0 a = W at hT hB ⊢
      obtain ⟨e0,e1,e2,e3,_⟩:=hT.cells
      exact bodyPost_ret (v:=.tuple #[tkV 4 (T.extract k (k + 1)) 0 a,.int .i64 ((a:Int) + 1),.int .i64 0]) (by simp [results,Tryz.results105,go_sem,e0,e1,e2,e3]) rfl ⟨by rw [HVV.out],hB⟩
     | false =>
      have HN:Hid (∀ j (h:j < T.size),j < k + 1 → ((T[j].toNat:Int) == (s[a].toNat:Int)) = false):=by
       intro j h hj
       rcases Nat.lt_succ_iff_lt_or_eq.1 hj with h2 | rfl
       ·exact HNO.out j h h2
       ·exact hh
      go_wp2_with fail
      go_round
      case rel=>exact ⟨k + 1,by go_num,by omega,HN⟩
      case measure=>simp [intOf];omega
    ·have HVV:=Lib.hid (HV2.out (fun j h=>HNO.out j h (by omega)))
     clear HV1 HV2 HNO
     go_wp2_with fail
     have hT:=(TkAt.set4 (w:=w2) (b:=w.heap.size) HN0.out 0 ⟨#[]⟩ 0 0)
     have hB:=tkW_below HB0.out 0 ⟨#[]⟩ 0 0
     change bodyPost _ _ _ _ _ (tkW w2 w.heap.size 0 ⟨#[]⟩ 0 0)
     change TkAt (tkW w2 w.heap.size 0 ⟨#[]⟩ 0 0) _ _ _ _ _ at hT
     generalize tkW w2 w.heap.size 0 ⟨#[]⟩ 0 0 = W at hT hB ⊢
     obtain ⟨e0,e1,e2,e3,_⟩:=hT.cells
     exact bodyPost_ret (v:=badV 1800) (by simp [results,Tryz.results105,go_sem,e0,e1,e2,e3]) rfl ⟨by rw [HVV.out],hB⟩
theorem nx_bad {a:Nat} {t:List UInt8} {e:Int} (h:tok t = .error e):nxV a t = badV e:=by unfold nxV;rw [h]
theorem nx_ok {a:Nat} {t u:List UInt8} {k:Int} {x n:Nat} (h:tok t = .ok (k,u,x,n)):nxV a t = .tuple #[tkV k ⟨u.toArray⟩ x a,.int .i64 ((a + n:Nat):Int),.int .i64 0]:=by unfold nxV;rw [h]
theorem lit_sign (c:UInt8):signB c = true ↔ ∃ k,∃ h:k < (⟨#[123,125,40,41,59,44,61,60,43,45,42,47,37,38,33]⟩:ByteArray).size,(⟨#[123,125,40,41,59,44,61,60,43,45,42,47,37,38,33]⟩:ByteArray)[k] = c:=by
 unfold signB
 rw [List.contains_iff_mem]
 constructor
 ·intro h
  obtain ⟨i,hi,rfl⟩:=List.getElem_of_mem h
  exact ⟨i,hi,rfl⟩
 ·rintro ⟨k,h,rfl⟩
  exact List.getElem_mem (l := [123,125,40,41,59,44,61,60,43,45,42,47,37,38,33]) h
theorem u8_beq {x y:UInt8}:((x.toNat:Int) == (y.toNat:Int)) = (x == y):=by
 rw [Bool.eq_iff_iff,beq_iff_eq,beq_iff_eq,← UInt8.toNat_inj]
 omega
theorem tok_rest {t:List UInt8} (hl:letB (t.getD 0 0) = false) (hd:isD (t.getD 0 0) = false) (hq:t.getD 0 0 ≠ 34):tok t = if t.getD 0 0 = 61 ∧ 1 < t.length ∧ t.getD 1 0 = 61 then .ok (4,[61,61],0,2) else if signB (t.getD 0 0) then .ok (4,[t.getD 0 0],0,1) else .error 1800:=by
 unfold tok;rw [if_neg (by rw [hl];exact Bool.false_ne_true),if_neg (by rw [hd];exact Bool.false_ne_true),if_neg hq]
theorem tok_name' {t:List UInt8} (hl:letB (t.getD 0 0) = true):tok t = if 32 < runB wordB t then .error 1800 else .ok (1,t.take (runB wordB t),0,runB wordB t):=by
 unfold tok;rw [if_pos hl]
theorem tok_num' {t:List UInt8} (hl:letB (t.getD 0 0) = false) (hd:isD (t.getD 0 0) = true):tok t = match ofT (t.take (numEnd t)) with
  | none=>.error 1802
  | some x=>if decide (numEnd t < t.length) && (letB (t.getD (numEnd t) 0) || t.getD (numEnd t) 0 == 46) then .error 1802 else .ok (2,t.take (numEnd t),x,numEnd t):=by
 unfold tok;rw [if_neg (by rw [hl];exact Bool.false_ne_true),if_pos hd];rfl
theorem tok_str' {t:List UInt8} (hl:letB (t.getD 0 0) = false) (hd:isD (t.getD 0 0) = false) (hq:t.getD 0 0 = 34):tok t = match qtS false (t.drop 1) with
  | none=>.error 1801
  | some x=>if 1024 < x.1.length then .error 1801 else .ok (3,x.1,0,x.2 + 1):=by
 unfold tok;rw [if_neg (by rw [hl];exact Bool.false_ne_true),if_neg (by rw [hd];exact Bool.false_ne_true),if_pos hq];rfl
set_option maxHeartbeats 1000000 in
theorem next_any (s:ByteArray) (a:Nat) (w:World) (ha:a < s.size) (hs:s.size ≤ 1000000000) :
  Calls Tryz.prog 105 #[.string s,.int .i64 a] w fun e w'=>e = .returned (nxV a (s.data.toList.drop a)) ∧ Below w.heap.size w w':=by
 have hlen:=list_len s
 have hLl:(s.data.toList.drop a).length = s.size - a:=by rw [List.length_drop,hlen]
 have ht0:(s.data.toList.drop a).getD 0 0 = s[a]:=getD_at s a 0 ha
 have HL:Hid (∀ W,Calls Tryz.prog 141 #[.int .u8 (s[a].toNat:Int)] W fun e w'=>e = .returned (.bool (letB s[a])) ∧ W = w'):=fun W=>rlet_any s[a] W
 have HD:Hid (∀ W,Calls Tryz.prog 142 #[.int .u8 (s[a].toNat:Int)] W fun e w'=>e = .returned (.bool (isD s[a])) ∧ W = w'):=fun W=>rdig_any s[a] W
 cases hl:letB s[a] with
 | true =>
  rw [hl] at HL
  have ht:=tok_name' (t:=s.data.toList.drop a) (by rw [ht0];exact hl)
  refine nx_name s a w ha hs HL hl ?_
  intro n hn
  rw [hn] at ht
  refine ⟨fun h => ?_,fun h => ?_⟩
  ·rw [if_pos h] at ht;exact nx_bad ht
  ·rw [if_neg h] at ht;rw [ext_mid];exact nx_ok ht
 | false =>
  rw [hl] at HL
  cases hd:isD s[a] with
  | true =>
   rw [hd] at HD
   have ht:=tok_num' (t:=s.data.toList.drop a) (by rw [ht0];exact hl) (by rw [ht0];exact hd)
   have hn0:runB isD (s.data.toList.drop a) ≤ s.size - a:=by rw [← hLl];exact runB_le _ _
   have hnn:numEnd (s.data.toList.drop a) ≤ s.size - a:=by rw [← hLl];exact numEnd_le _
   have hst:=rb_step isD s a ha hd
   have hdd:∀ j,(s.data.toList.drop a).drop j = s.data.toList.drop (a + j):=fun j=>by rw [List.drop_drop]
   have hne:numEnd (s.data.toList.drop a) = if decide (runB isD (s.data.toList.drop a) + 1 < (s.data.toList.drop a).length) && (s.data.toList.drop a).getD (runB isD (s.data.toList.drop a)) 0 == 46 && isD ((s.data.toList.drop a).getD (runB isD (s.data.toList.drop a) + 1) 0) then runB isD (s.data.toList.drop a) + 1 + runB isD ((s.data.toList.drop a).drop (runB isD (s.data.toList.drop a) + 1)) else runB isD (s.data.toList.drop a):=rfl
   rw [hdd] at hne
   have HX:Hid (∀ W,Calls Tryz.prog 143 #[.string ⟨((s.data.toList.drop a).take (numEnd (s.data.toList.drop a))).toArray⟩] W fun e w'=>e = .returned (rofE ((s.data.toList.drop a).take (numEnd (s.data.toList.drop a)))) ∧ Below W.heap.size W w'):=fun W=>rOfText_any _ W (by rw [List.length_take];omega)
   generalize hm:runB isD (s.data.toList.drop a) = m at *
   generalize hne0:numEnd (s.data.toList.drop a) = ne at *
   obtain ⟨b,hb⟩:∃ b,(decide (m + 1 < (s.data.toList.drop a).length) && (s.data.toList.drop a).getD m 0 == 46 && isD ((s.data.toList.drop a).getD (m + 1) 0)) = b:=⟨_,rfl⟩
   rw [hb] at hne
   have hnx:s.extract a (a + ne) = ⟨((s.data.toList.drop a).take ne).toArray⟩:=ext_mid s a ne
   have HQ:Hid ((b = false ∧ a + ne = a + m) ∨ (b = true ∧ a + m + 1 < s.size ∧ a + m + 1 + runB isD (s.data.toList.drop (a + m + 1)) = a + ne)):=by
    cases b with
    | false=>exact .inl ⟨rfl,by rw [hne];rfl⟩
    | true =>
     simp only [Bool.and_eq_true,decide_eq_true_eq] at hb
     refine .inr ⟨rfl,by have:=hb.1.1;omega,?_⟩
     rw [hne,if_pos rfl,show a + (m + 1) = a + m + 1 by omega];omega
   have HP:Hid ((s.size ≤ a + m + 1 ∧ b = false) ∨ (∃ h:a + m + 1 < s.size,((s[a + m].toNat:Int) == 46) = false ∧ b = false) ∨
     (∃ h:a + m + 1 < s.size,((s[a + m].toNat:Int) == 46) = true ∧ Hid (∀ W,Calls Tryz.prog 142 #[.int .u8 (s[a + m + 1].toNat:Int)] W fun e w'=>e = .returned (.bool b) ∧ W = w'))):=by
    by_cases h1:a + m + 1 < s.size
    ·have e1:=getD_at s a m (by omega)
     have e2:=getD_at s a (m + 1) (by omega)
     rw [e1,e2,decide_eq_true (show m + 1 < (s.data.toList.drop a).length by omega),Bool.true_and] at hb
     by_cases h2:s[a + m] = 46
     ·rw [h2] at hb
      refine .inr (.inr ⟨h1,by rw [h2];rfl,?_⟩)
      intro W
      have:=rdig_any s[a + m + 1] W
      rw [show isD s[a + m + 1] = b by rw [← hb];rfl] at this
      exact this
     ·rw [beq_eq_false_iff_ne.2 h2,Bool.false_and] at hb
      refine .inr (.inl ⟨h1,?_,hb.symm⟩)
      rw [beq_eq_false_iff_ne]
      intro e
      exact h2 (UInt8.toNat_inj.1 (by show s[a + m].toNat = 46;omega))
    ·rw [decide_eq_false (by omega),Bool.false_and,Bool.false_and] at hb
     exact .inl ⟨by omega,hb.symm⟩
   have HSuf:∀ x,ofT ((s.data.toList.drop a).take ne) = some x → Hid ((s.size ≤ a + ne ∧ nxV a (s.data.toList.drop a) = .tuple #[tkV 2 ⟨((s.data.toList.drop a).take ne).toArray⟩ x a,.int .i64 ((a + ne:Nat):Int),.int .i64 0]) ∨
     (∃ h:a + ne < s.size,Hid (∀ W,Calls Tryz.prog 141 #[.int .u8 (s[a + ne].toNat:Int)] W fun e w'=>e = .returned (.bool true) ∧ W = w') ∧ nxV a (s.data.toList.drop a) = badV 1802) ∨
     (∃ h:a + ne < s.size,Hid (∀ W,Calls Tryz.prog 141 #[.int .u8 (s[a + ne].toNat:Int)] W fun e w'=>e = .returned (.bool false) ∧ W = w') ∧ ((s[a + ne].toNat:Int) == 46) = true ∧ nxV a (s.data.toList.drop a) = badV 1802) ∨
     (∃ h:a + ne < s.size,Hid (∀ W,Calls Tryz.prog 141 #[.int .u8 (s[a + ne].toNat:Int)] W fun e w'=>e = .returned (.bool false) ∧ W = w') ∧ ((s[a + ne].toNat:Int) == 46) = false ∧ nxV a (s.data.toList.drop a) = .tuple #[tkV 2 ⟨((s.data.toList.drop a).take ne).toArray⟩ x a,.int .i64 ((a + ne:Nat):Int),.int .i64 0])):=by
    intro x hx
    rw [hx] at ht
    simp only at ht
    by_cases h1:a + ne < s.size
    ·rw [decide_eq_true (show ne < (s.data.toList.drop a).length by omega),Bool.true_and,getD_at s a ne h1] at ht
     have hlt:=fun W=>rlet_any s[a + ne] W
     cases hlx:letB s[a + ne] with
     | true =>
      rw [hlx] at hlt
      rw [hlx,Bool.true_or,if_pos rfl] at ht
      exact .inr (.inl ⟨h1,hlt,nx_bad ht⟩)
     | false =>
      rw [hlx] at hlt
      rw [hlx,Bool.false_or] at ht
      by_cases h2:s[a + ne] = 46
      ·rw [if_pos (by rw [h2];rfl)] at ht
       exact .inr (.inr (.inl ⟨h1,hlt,by rw [h2];rfl,nx_bad ht⟩))
      ·rw [if_neg (by rw [beq_eq_false_iff_ne.2 h2];exact Bool.false_ne_true)] at ht
       refine .inr (.inr (.inr ⟨h1,hlt,?_,nx_ok ht⟩))
       rw [beq_eq_false_iff_ne]
       intro e
       exact h2 (UInt8.toNat_inj.1 (by show s[a + ne].toNat = 46;omega))
    ·rw [decide_eq_false (by omega),Bool.false_and,if_neg Bool.false_ne_true] at ht
     exact .inl ⟨by omega,nx_ok ht⟩
   have hrof:rofE ((s.data.toList.drop a).take ne) = match ofT ((s.data.toList.drop a).take ne) with
    | some a=>.tuple #[fv a,.int .i64 0]
    | none=>.tuple #[fv 0,.int .i64 200]:=by unfold rofE;rw [of_same];cases ofT ((s.data.toList.drop a).take ne) <;> rfl
   rw [hrof] at HX
   cases hx:ofT ((s.data.toList.drop a).take ne) with
   | none =>
    rw [hx] at HX ht
    exact nx_num s a w ha hs HL HD (a + m) (a + ne) b (by rw [hm]) (by rw [← hm] at hst;omega) (by omega) (by omega) HP HQ _ hnx (by omega) 0 200 HX _ (.inl ⟨by decide,nx_bad ht⟩)
   | some x =>
    rw [hx] at HX
    refine nx_num s a w ha hs HL HD (a + m) (a + ne) b (by rw [hm]) (by rw [← hm] at hst;omega) (by omega) (by omega) HP HQ _ hnx (by omega) x 0 HX _ (.inr ?_)
    rcases (HSuf x hx).out with ⟨h1,h2⟩ | ⟨h1,h2,h3⟩ | ⟨h1,h2,h3,h4⟩ | ⟨h1,h2,h3,h4⟩
    ·exact .inl ⟨rfl,h1,h2⟩
    ·exact .inr (.inl ⟨rfl,h1,h2,h3⟩)
    ·exact .inr (.inr (.inl ⟨rfl,h1,h2,h3,h4⟩))
    ·exact .inr (.inr (.inr ⟨rfl,h1,h2,h3,h4⟩))
  | false =>
   rw [hd] at HD
   cases hq:((s[a].toNat:Int) == 34) with
   | true =>
    have e34:s[a] = 34:=u8_eq (n:=34) (by decide) hq
    have ht:=tok_str' (t:=s.data.toList.drop a) (by rw [ht0];exact hl) (by rw [ht0];exact hd) (by rw [ht0];exact e34)
    rw [List.drop_drop] at ht
    have HQ:Hid (∀ W,Calls Tryz.prog 144 #[.string s,.int .i64 a] W fun e w'=>e = .returned (quV s a) ∧ Below W.heap.size W w'):=fun W=>quoted_any s a W ha hs
    cases hqt:qtS false (s.data.toList.drop (a + 1)) with
    | none =>
     rw [hqt] at ht
     rw [quV_none hqt] at HQ
     rw [nx_bad ht]
     exact nx_quote s a w ha hs HL HD hq _ _ _ _ _ _ HQ
    | some y =>
     rw [hqt] at ht
     simp only at ht
     have hqv:quV s a = if 1024 < y.1.length then badV 1801 else .tuple #[tkV 3 ⟨y.1.toArray⟩ 0 a,.int .i64 ((a + 1 + y.2:Nat):Int),.int .i64 0]:=by unfold quV;rw [hqt]
     by_cases hb:1024 < y.1.length
     ·rw [if_pos hb] at ht hqv
      rw [hqv] at HQ
      rw [nx_bad ht]
      exact nx_quote s a w ha hs HL HD hq _ _ _ _ _ _ HQ
     ·rw [if_neg hb] at ht hqv
      rw [hqv] at HQ
      rw [nx_ok ht,show a + (y.2 + 1) = a + 1 + y.2 by omega]
      exact nx_quote s a w ha hs HL HD hq _ _ _ _ _ _ HQ
   | false =>
    have n34:s[a] ≠ 34:=u8_ne (n:=34) (by decide) hq
    have ht:=tok_rest (t:=s.data.toList.drop a) (by rw [ht0];exact hl) (by rw [ht0];exact hd) (by rw [ht0];exact n34)
    rw [ht0,hLl] at ht
    have e61:((s[a].toNat:Int) == 61) = (s[a] == 61):=u8_beq (x:=s[a]) (y:=61)
    refine nx_punct s a w ha hs HL HD hq (decide (s[a] = 61 ∧ 1 < s.size - a ∧ (s.data.toList.drop a).getD 1 0 = 61)) ?_ _ rfl _ ⟨fun h => ?_,fun h=>⟨fun k hk hT => ?_,fun hno => ?_⟩⟩
    ·by_cases h1:s[a] = 61
     ·by_cases h2:a + 1 < s.size
      ·refine .inr (.inr ⟨by rw [e61,h1];rfl,h2,?_⟩)
       have e3:((s[a + 1].toNat:Int) == 61) = (s[a + 1] == 61):=u8_beq (x:=s[a + 1]) (y:=61)
       rw [getD_at s a 1 h2,e3]
       by_cases h3:s[a + 1] = 61
       ·rw [h3,decide_eq_true ⟨h1,by omega,rfl⟩];rfl
       ·rw [beq_eq_false_iff_ne.2 h3,decide_eq_false (fun h=>h3 h.2.2)]
      ·exact .inr (.inl ⟨by rw [e61,h1];rfl,by omega,decide_eq_false (fun h=>by omega)⟩)
     ·exact .inl ⟨by rw [e61];exact beq_eq_false_iff_ne.2 h1,decide_eq_false (fun h=>h1 h.1)⟩
    ·rw [if_pos (of_decide_eq_true h)] at ht
     exact nx_ok ht
    ·rw [if_neg (of_decide_eq_false h)] at ht
     rw [u8_beq,beq_iff_eq] at hT
     rw [if_pos ((lit_sign s[a]).2 ⟨k,hk,hT⟩)] at ht
     rw [nx_ok ht,← hT]
     have e1:(⟨#[123,125,40,41,59,44,61,60,43,45,42,47,37,38,33]⟩:ByteArray).extract k (k + 1) = ⟨[(⟨#[123,125,40,41,59,44,61,60,43,45,42,47,37,38,33]⟩:ByteArray)[k]].toArray⟩:=by
      rw [ext_mid,drop_cons _ k hk];rfl
     rw [e1];rfl
    ·rw [if_neg (of_decide_eq_false h)] at ht
     rw [if_neg] at ht
     ·exact nx_bad ht
     ·rw [lit_sign]
      rintro ⟨k,hk,hT⟩
      have:=hno k hk
      rw [u8_beq,hT] at this
      simp at this
end Go.Proofs.YtmfpmandkhiknaaGreatDoor.lex
namespace Go.Proofs.YtmfpmandkhiknaaGreatDoor.lex
open Go.RowKit
open heap
open num (list_len drop_cons)
set_option maxRecDepth 100000
attribute [local go_sem] run_store_float
theorem At.bad1 {L:List UInt8} {ts:List Tk} {k f:Nat} {e:Int} (h:At L ts k f) (h0:L.drop k ≠ []) (ht:tok (L.drop k) = .error e):(scanL L).1 = ts:=by
 cases f with
 | zero=>have:=h.fuel;omega
 | succ f =>
  have:=h.one
  rw [scanF,if_neg h0,ht] at this
  simpa using this.symm
theorem round_app2 (w w2:World) (v:Value) (ts:List Tk) (t:Tk) (hrow:TRow w2 w.heap.size v ts) (hbl:Below w.heap.size w w2) (hn:ts.length ≤ 100000) :
  ∃ v2 w5,(Builtin.append_ #[100,100] 100 #[v,.slice (some ⟨w2.heap.size + 1,0,none⟩) 1 1]).run Tryz.prog ((w2.alloc (tokO t)).alloc (tokO t)) = .ok v2 w5 ∧ TRow w5 w.heap.size v2 (ts ++ [t]) ∧ Below w.heap.size w w5:=by
 have hz:((w2.alloc (tokO t)).alloc (tokO t)).heap.size = w2.heap.size + 1 + 1:=by simp
 have n1:(w2.alloc (tokO t)).heap.size = w2.heap.size + 1:=by simp
 have b2:Below w2.heap.size w2 ((w2.alloc (tokO t)).alloc (tokO t)):=((Below.refl _ _).alloc (Nat.le_refl _) _).alloc (by simp) _
 have g3:((w2.alloc (tokO t)).alloc (tokO t)).heap[w2.heap.size + 1]? = some (tokO t):=by
  have:=blk_new (w2.alloc (tokO t)) (tokO t)
  rw [n1] at this
  exact this
 obtain ⟨v2,w5,h1,h2,h3⟩:=app_tok w.heap.size (w2.heap.size + 1) v ts t _ (hrow.below b2) g3 (by rw [hz];have:=hbl.size;omega) hn
 refine ⟨v2,w5,h1,h2,(hbl.trans (b2.mono hbl.size)).trans (h3.below ?_ (fun g hg=>(hrow.own_lt g hg).1))⟩
 rw [hz];have:=hbl.size;omega
theorem round_app1 (w w2:World) (v:Value) (ts:List Tk) (t:Tk) (hrow:TRow w2 w.heap.size v ts) (hbl:Below w.heap.size w w2) (hn:ts.length ≤ 100000) :
  ∃ v2 w5,(Builtin.append_ #[100,100] 100 #[v,.slice (some ⟨w2.heap.size,0,none⟩) 1 1]).run Tryz.prog (w2.alloc (tokO t)) = .ok v2 w5 ∧ TRow w5 w.heap.size v2 (ts ++ [t]) ∧ Below w.heap.size w w5:=by
 have b2:Below w2.heap.size w2 (w2.alloc (tokO t)):=(Below.refl _ _).alloc (Nat.le_refl _) _
 obtain ⟨v2,w5,h1,h2,h3⟩:=app_tok w.heap.size w2.heap.size v ts t _ (hrow.below b2) (blk_new _ _) (by simp;have:=hbl.size;omega) hn
 refine ⟨v2,w5,h1,h2,(hbl.trans (b2.mono hbl.size)).trans (h3.below ?_ (fun g hg=>(hrow.own_lt g hg).1))⟩
 have:=hbl.size;simp;omega
set_option maxHeartbeats 4000000 in
theorem Scan_any (s:ByteArray) (w:World) (hs:s.size ≤ 9223372036854775807) :
  Calls Tryz.prog 72 #[.string s] w fun e w'=>∃ v,e = .returned (.tuple #[v,.int .i64 (scanL s.data.toList).2.1,.int .i64 (scanL s.data.toList).2.2]) ∧ TRow w' w.heap.size v (scanL s.data.toList).1 ∧ Below w.heap.size w w':=by
 have hlen:=list_len s
 by_cases hbig:16384 < s.size
 ·have HS:Hid (scanL s.data.toList = ([],0,1803)):=by unfold Hid scanL;rw [if_pos (by rw [hlen];exact hbig)]
  have hd:decide (16384 < (s.size:Int)) = true:=decide_eq_true (by omega)
  rw [HS.out]
  go_enter Tryz.func72,Tryz.ntmps72
  go_wp2_with fail
  exact bodyPost_ret (v:=.tuple #[.slice none 0 0,.int .i64 0,.int .i64 1803]) (by simp [results,Tryz.results72,go_sem]) rfl ⟨_,rfl,TRow.nil _ _,Below.refl _ _⟩
 ·replace hs:s.size ≤ 1000000000:=by omega
  have hd:decide (16384 < (s.size:Int)) = false:=decide_eq_false (by omega)
  have HAT:=Lib.hid (At.start (L:=s.data.toList) (by rw [hlen];exact hbig))
  have HBK:Hid (∀ W,Calls Tryz.prog 104 #[.string s,.int .i64 0] W fun e w'=>e = .returned (.int .i64 (skp false s.data.toList:Nat)) ∧ W = w'):=fun W=>by
   have:=rblanks_any s 0 W (Nat.zero_le _) (by omega)
   rw [Nat.zero_add,List.drop_zero] at this
   exact this
  generalize hLx:scanL s.data.toList = lx at *
  have HLX:=Lib.hid hLx
  clear hLx
  go_enter Tryz.func72,Tryz.ntmps72
  go_wp2_with (go_at_call 104;refine (HBK.out _).mono ?_;rintro e w' ⟨rfl,rfl⟩)
  go_loopw [5,6] (fun vo vi wr=>∃ (ts:List Tk) (k f:Nat),vi = .int .i64 k ∧ Hid (At s.data.toList ts k f ∧ TRow wr w.heap.size vo ts ∧ Below w.heap.size w wr)) (fun _ vi _=>s.size - (intOf vi).toNat)
  case atStart=>exact ⟨[],_,_,rfl,HAT.out,TRow.nil _ _,Below.refl _ _⟩
  case round =>
   obtain ⟨ts,k,f,rfl,hr⟩:=hrel
   obtain ⟨hat,hrow,hbl⟩:=hr.out
   obtain ⟨a1,c1',rfl⟩:=hrow.slice
   have hk:=hat.le
   have hfew:=hat.few
   rw [hlen] at hk
   have HA:=Lib.hid hat
   have HROW:=Lib.hid hrow
   have HBL:=Lib.hid hbl
   clear hr hat hrow hbl
   by_cases hlt:k < s.size
   ·have h0:=drop_ne s k hlt
    have HNX:=Lib.hid (next_any s k wr hlt (by omega))
    go_wp2_with fail
    refine (HNX.out).mono ?_;rintro e w2 ⟨rfl,hb2⟩
    have HROW2:=Lib.hid (HROW.out.below hb2)
    have HBL2:=Lib.hid (HBL.out.trans (hb2.mono HBL.out.size))
    have hw2:w.heap.size ≤ w2.heap.size:=Nat.le_trans HBL.out.size hb2.size
    clear hb2 HNX HROW HBL
    cases ht:tok (s.data.toList.drop k) with
    | error er =>
     have he2:=HA.out.bad h0 ht
     have he1:=HA.out.bad1 h0 ht
     have her:=tok_err ht
     have her2:(er == 0) = false:=beq_eq_false_iff_ne.2 her
     rw [nx_bad ht]
     have HE2:Hid (lx = (ts,k,er)):=by unfold Hid;rw [← HLX.out];exact Prod.ext he1 he2
     clear he2 he1 ht h0
     go_wp2_with fail
     refine bodyPost_ret (v:=.tuple #[.slice a1 ts.length c1',.int .i64 k,.int .i64 er]) (by simp [results,Tryz.results72,go_sem]) rfl ⟨.slice a1 ts.length c1',by rw [HE2.out],?_,HBL2.out.alloc hw2 _⟩
     rw [HE2.out]
     exact HROW2.out.below ((Below.refl _ _).alloc (Nat.le_refl _) _)
    | ok x =>
     obtain ⟨kd,u,x,n⟩:=x
     obtain ⟨hkn,hn1,f',hnx⟩:=HA.out.next h0 ht
     rw [hlen] at hkn
     rw [nx_ok ht]
     obtain ⟨v2,w5,hrun,hrow5,hbl5⟩:=round_app2 w w2 _ ts ⟨kd,u,x,k⟩ HROW2.out HBL2.out (by omega)
     have HRUN:Hid ((Builtin.append_ #[100,100] 100 #[.slice a1 ts.length c1',.slice (some ⟨w2.heap.size + 1,0,none⟩) 1 1]).run Tryz.prog ((w2.alloc (.cells #[.int .i64 kd,.string ⟨u.toArray⟩,.float .f64 x,.int .i64 k] 98)).alloc (.cells #[.int .i64 kd,.string ⟨u.toArray⟩,.float .f64 x,.int .i64 k] 98)) = .ok v2 w5):=hrun
     have HROW5:=Lib.hid hrow5
     have HBL5:=Lib.hid hbl5
     have HN:=Lib.hid hnx
     have hbn:∀ W,Calls Tryz.prog 104 #[.string s,.int .i64 ((k + n:Nat):Int)] W fun e w'=>e = .returned (.int .i64 ((k + n + skp false (s.data.toList.drop (k + n)):Nat):Int)) ∧ W = w':=fun W=>rblanks_any s (k + n) W hkn (by omega)
     generalize hK:k + n + skp false (s.data.toList.drop (k + n)) = k3 at *
     have hk3:k + n ≤ k3:=by omega
     have e5:(((k + n:Nat):Int)) = (k:Int) + n:=by omega
     rw [e5] at hbn
     have HBN:=Lib.hid hbn
     clear hrun hrow5 hbl5 hnx ht h0 hbn hK
     go_wp2_with (first | (at_builtin;refine reg.wpList_append rfl rfl rfl rfl rfl HRUN.out ?_) | (go_at_call 104;refine (HBN.out _).mono ?_;rintro e w' ⟨rfl,rfl⟩))
     go_roundw
     case rel=>exact ⟨_,k3,_,rfl,HN.out,HROW5.out,HBL5.out⟩
     case measure =>
      have:=HN.out.le
      simp [intOf];omega
   ·have h0:s.data.toList.drop k = []:=List.drop_eq_nil_of_le (by omega)
    obtain ⟨he1,he2⟩:=HA.out.end' h0
    have hks:k = s.size:=by omega
    obtain ⟨v2,w5,hrun,hrow5,hbl5⟩:=round_app1 w wr _ ts ⟨0,[],0,k⟩ HROW.out HBL.out (by omega)
    have HRUN:Hid ((Builtin.append_ #[100,100] 100 #[.slice a1 ts.length c1',.slice (some ⟨wr.heap.size,0,none⟩) 1 1]).run Tryz.prog (wr.alloc (.cells #[.int .i64 0,.string ⟨#[]⟩,.float .f64 0,.int .i64 (s.size:Nat)] 98)) = .ok v2 w5):=by
     unfold Hid;rw [← hks];exact hrun
    have HROW5:=Lib.hid hrow5
    have HBL5:=Lib.hid hbl5
    have HE:Hid (lx = (ts ++ [⟨0,[],0,k⟩],0,0)):=by
     unfold Hid;rw [← HLX.out];exact Prod.ext he1 he2
    clear he1 he2 h0 hrun hrow5 hbl5
    go_wp2_with (at_builtin;refine reg.wpList_append rfl rfl rfl rfl rfl HRUN.out ?_)
    refine bodyPost_ret (v:=.tuple #[v2,.int .i64 0,.int .i64 0]) (by simp [results,Tryz.results72,go_sem]) rfl ⟨v2,by rw [HE.out];rfl,?_,HBL5.out⟩
    rw [HE.out];exact HROW5.out
end Go.Proofs.YtmfpmandkhiknaaGreatDoor.lex
