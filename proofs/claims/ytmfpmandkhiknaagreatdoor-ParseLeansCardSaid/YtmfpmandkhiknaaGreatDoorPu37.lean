/-
  Proved: what orielref0.Decimal returns of a number from 0 on. Conditions: as each theorem says.
-/
import Derived.Test.YtmfpmandkhiknaaGreatDoorPu1
import Derived.Test.YtmfpmandkhiknaaGreatDoorPu5
import Derived.Test.YtmfpmandkhiknaaGreatDoorPu2
import Derived.Laws.AppendOwn
import Derived.Deep.Upon
set_option linter.unusedVariables false
set_option linter.unusedSimpArgs false
namespace Go.Proofs.YtmfpmandkhiknaaGreatDoor.num
open Go.RowKit
theorem infoD:(Tryz.prog.info? 5).map (fun i=>(i.zero,i.size,i.bytes)) = some (some (.int .u8 0),1,1):=by kernel_rfl
theorem app_nilD (w:World) (g:Nat):(Builtin.append_ #[58,58] 58 #[.slice (some ⟨g,0,none⟩) 1 1,.slice none 0 0]).run Tryz.prog w = .ok (.slice (some ⟨g,0,none⟩) 1 1) w:=by
 obtain ⟨i0,hi,hz0,hz1,hz2⟩:=info_parts infoD
 exact run_append_nothing w _ _ _ 5 i0 Tryz.underlying58 hi _ 1 1 (Nat.le_refl _) _ (Src.ofNil w Tryz.underlying58 0)
theorem row_one (w:World) (v:Value) (base:Nat) (hb:base ≤ w.heap.size):(w.alloc (.cells #[v] 5 (0,0))).ownsRow base 5 1 (.slice (some ⟨w.heap.size,0,none⟩) 1 1) 1 [v]:=
 ⟨by simp,.inr ⟨w.heap.size,1,#[v],rfl,hb,heap_alloc_new w _,Nat.le_refl _,by decide,by simp,by simp⟩⟩
def DigAt (w:World) (x:Nat) (vs vo:Value) (wr:World) (k:Nat):Prop:=
 vs = .int .u64 ((x / 10 ^ k:Nat):Int) ∧ wr.ownsRow w.heap.size 5 1 vo k ((digsTo x k).map byteV) ∧ (k ≤ 1 ∨ x / 10 ^ (k - 1) ≠ 0) ∧ Below w.heap.size w wr
theorem DigAt.row {w wr:World} {x k:Nat} {vs vo:Value} (h:DigAt w x vs vo wr (k + 1)):∃ g cap,vo = .slice (some ⟨g,0,none⟩) (k + 1) cap:=by
 obtain ⟨_,⟨_,h2 | ⟨g,cap,cur,h2,_⟩⟩,_⟩:=h
 ·omega
 ·exact ⟨g,cap,h2⟩
theorem own_rowis {w:World} {base g n cap:Nat} {l:List UInt8} (h:w.ownsRow base 5 1 (.slice (some ⟨g,0,none⟩) n cap) n (l.map byteV)):row.RowIs w g l ∧ l.length = n:=by
 obtain ⟨h1,h2 | ⟨g',cap',cur,h2,_,h4,h5,_,h7,h8⟩⟩:=h
 ·exact absurd h2.1 (by simp)
 ·cases h2
  have hl:l.length = n:=by simpa using h1
  refine ⟨⟨cur,0,0,h4,by simp,?_,fun i hi => ?_⟩,hl⟩
  ·rw [hl,h7];omega
  ·have e:(cur.toList.take (n * 1))[i]? = (l.map byteV)[i]?:=by rw [h8]
   rw [List.getElem?_take_of_lt (by omega),List.getElem?_map,List.getElem?_eq_getElem hi] at e
   rw [← Array.getElem?_toList,e]
   simp [byteV,row.byteV,hi]
theorem digs_ten (x k:Nat):x / 10 ^ (k + 1) = x / 10 ^ k / 10:=by rw [Nat.pow_succ,Nat.div_div_eq_div_mul]
def nilOne:Value → Nat
 | .slice none _ _=>1
 | _=>0
set_option maxRecDepth 100000 in
set_option maxHeartbeats 2000000 in
theorem Decimal_nat (x:Nat) (hx:x < 9223372036854775808) (w:World):Calls Tryz.prog 23 #[.int .i64 x] w fun e w'=>e = .returned (.string (decS x)) ∧ Below w.heap.size w w':=by
 have hu:IntKind.u64.wrap (x:Int) = x:=by rw [IntKind.wrap_u64];omega
 have hn0:decide ((x:Int) < 0) = false:=decide_eq_false (by omega)
 have H0:Hid (DigAt w x (.int .u64 x) (.slice none 0 0) w 0):=⟨by simp,World.ownsRow_nil _ _ _ _,.inl (by omega),Below.refl _ _⟩
 go_enter Tryz.func23,Tryz.ntmps23
 go_wp2_with fail
 go_loopw [3,4] (fun vs vo wr=>(vo = .slice none 0 0 ∧ DigAt w x vs vo wr 0) ∨ (∃ k,DigAt w x vs vo wr (k + 1))) (fun vs vo _=>(intOf vs).toNat + nilOne vo)
 case atStart=>exact .inl ⟨rfl,H0.out⟩
 case round =>
  clear hu
  rcases hrel with ⟨rfl,rfl,hown,_,hbl⟩ | ⟨k,hd⟩
  ·have h1:x / 10 ^ 0 = x:=by simp
   rw [h1]
   have HB:Hid (Below w.heap.size w wr):=hbl
   have HA:=Lib.hid (fun W:World=>app_nilD W wr.heap.size)
   have HR:Hid (∃ k,DigAt w x (.int .u64 ((x / 10:Nat):Int)) (.slice (some ⟨wr.heap.size,0,none⟩) 1 1) (wr.alloc (.cells #[.int .u8 (48 + (x:Int) % 10)] 5 (0,0))) (k + 1)):=by
    refine ⟨0,by simp,?_,.inl (by omega),hbl.alloc hbl.size _⟩
    have:=row_one wr (.int .u8 (48 + (x:Int) % 10)) w.heap.size hbl.size
    rw [digitV] at this ⊢
    simpa [digsTo] using this
   clear hown hbl h1
   have hxb:(x:Int) ≤ 9223372036854775807:=by omega
   by_cases h0:0 < x
   ·have hg:decide ((0:Int) < x) = true:=decide_eq_true (by omega)
    go_wp2_with (at_builtin;refine reg.wpList_append rfl rfl rfl rfl rfl (HA.out _) ?_)
    go_roundw
    case rel=>exact .inr (by first | exact HR.out | simpa using HR.out)
    case measure=>simp [intOf,nilOne];omega
   ·have hg:decide ((0:Int) < x) = false:=decide_eq_false (by omega)
    go_wp2_with (at_builtin;refine reg.wpList_append rfl rfl rfl rfl rfl (HA.out _) ?_)
    go_roundw
    case rel=>exact .inr (by first | exact HR.out | simpa using HR.out)
    case measure=>simp [intOf,nilOne];omega
  ·obtain ⟨g,cap,rfl⟩:=hd.row
   obtain ⟨rfl,hown,hk,hbl⟩:=hd
   have hsx:x / 10 ^ (k + 1) ≤ x:=Nat.div_le_self _ _
   have hk20:k < 20:=by
    refine below_ten x k (by unfold U64;omega) ?_
    rcases hk with hk | hk
    ·left;omega
    ·right;exact hk
   have hk0:(((k + 1:Nat):Int) == 0) = false:=beq_eq_false_iff_ne.2 (by omega)
   by_cases hs:0 < x / 10 ^ (k + 1)
   ·obtain ⟨i0,hi,hz0,hz1,hz2⟩:=info_parts infoD
    have hown2:=hown.alloc (.cells #[.int .u8 (48 + ((x / 10 ^ (k + 1):Nat):Int) % 10)] 5 (0,0))
    obtain ⟨v',w',hrun,hown',hgrow,_⟩:=run_append_own (P:=Tryz.prog) (wr.alloc (.cells #[.int .u8 (48 + ((x / 10 ^ (k + 1):Nat):Int) % 10)] 5 (0,0))) w.heap.size 58 58 5 i0 (.int .u8 0) 1 1 Tryz.underlying58 hi hz0 hz1 hz2 rfl (by decide)
     (.slice (some ⟨wr.heap.size,0,none⟩) 1 1) 1 [.int .u8 (48 + ((x / 10 ^ (k + 1):Nat):Int) % 10)] (row_one wr _ _ hbl.size) ⟨g,0,none⟩ (k + 1) cap ((digsTo x (k + 1)).map byteV) (by rw [List.length_map,digsTo_len];omega)
     (fun j u hj=>hown2.cells rfl j u hj) (fun u hu=>by obtain ⟨c,_,rfl⟩:=List.mem_map.1 hu;rfl) (by unfold maxLen;omega) (by omega) (by have:=hbl.size;simp;omega)
    have HR:Hid (DigAt w x (.int .u64 ((x / 10 ^ (k + 1) / 10:Nat):Int)) v' w' (k + 1 + 1)):=by
     refine ⟨by rw [digs_ten x (k + 1)],?_,.inr (by rw [Nat.add_sub_cancel];omega),?_⟩
     ·rw [digsTo,List.map_cons,← digitV,Nat.add_comm (k + 1) 1]
      exact hown'
     ·refine (hbl.alloc hbl.size _).grown hgrow (by have:=hbl.size;simp;omega) (fun j hj => ?_)
      have:j = wr.heap.size:=(Option.some.inj hj).symm
      rw [this];exact hbl.size
    have Hrun:=Lib.hid hrun
    have hv:nilOne v' = 0:=by
     obtain ⟨g',cap',e⟩:=HR.out.row
     rw [e];rfl
    have HV:=Lib.hid hv
    clear hown' hgrow hrun hown2 hi hz0 hz1 hz2 hown hbl hk hv
    generalize x / 10 ^ (k + 1) = s at *
    have hg:decide ((0:Int) < s) = true:=decide_eq_true (by omega)
    go_wp2_with (at_builtin;refine reg.wpList_append rfl rfl rfl rfl rfl Hrun.out ?_)
    go_roundw
    case rel=>exact .inr ⟨k + 1,by first | exact HR.out | simpa using HR.out⟩
    case measure=>simp [intOf,HV.out,show nilOne (.slice (some ⟨g,0,none⟩) (k + 1) cap) = 0 from rfl];omega
   ·have hs0:x / 10 ^ (k + 1) = 0:=Nat.eq_zero_of_not_pos hs
    rw [hs0]
    obtain ⟨hrow,hlen⟩:=own_rowis hown
    have hcv:=hrow.conv cap
    rw [hlen] at hcv
    have HE:Hid (decS x = ⟨(digsTo x (k + 1)).toArray⟩):=by
     unfold Hid decS
     rw [decL_digs x k hs0 (by rcases hk with hk | hk;exact .inl (by omega);exact .inr hk) (by omega)]
    have HB:Hid (Below w.heap.size w wr):=hbl
    clear hown hbl hk hs hs0 hsx hrow hlen
    go_wp2_with fail
    go_ret
    exact ⟨ret_str HE.out.symm,HB.out⟩
end Go.Proofs.YtmfpmandkhiknaaGreatDoor.num
