/-
  Proved: further lemmas and contracts that the pack of the seat does not hold. Conditions: as each theorem says.
  Proved: what the machine of VmLoops' scripts comes to (plain). Conditions: as each theorem says. No program is in sight.
  Proved: VmLoops says true. Conditions: as each theorem says.
-/
import Derived.Test.YtmfpmandkhiknaaGreatDoorPw41
import Derived.Laws.AppendOwn
import Derived.Deep.Upon
set_option linter.unusedVariables false
set_option linter.unusedSimpArgs false
namespace Go.Proofs.YtmfpmandkhiknaaGreatDoor.vmm
open Go Go.RowKit Ieee
open flt heap
open lex (run_store_float add0)
set_option maxRecDepth 100000
attribute [local go_sem] run_store_float
theorem Vars_all (p:Nat) (m:Mac) (cv sv:Value) (C:Is) (w:World) (h:MAt w p m cv sv C) :
  Calls Tryz.prog 19 #[.pointer (some ⟨p,0,none⟩)] w fun e w'=>∃ v V,e = .returned v ∧ VRow w' w.heap.size v V ∧ V.map (·.1) = m.vars ∧ VsOk V ∧ V.length = 64 ∧ Below w.heap.size w w':=by
 obtain ⟨V,L,h1,-,-⟩:=h
 have hl:=vCs_len V
 rw [h1.v64] at hl
 have HC:=Lib.hid (clone_any V p 5 64 w (fun j u hu=>by
  have hj:j < 192:=by have:=(List.getElem?_eq_some_iff.1 hu).1;omega
  rw [h1.cell,Nat.add_comm 5 j,row_var h1.v64 j hj]
  exact hu) (fun e=>by have:=h1.v64;rw [e] at this;cases this) (by rw [h1.v64];decide))
 rw [h1.v64] at HC
 have HV:=Lib.hid h1.vars
 have HO:=Lib.hid h1.vok
 have H64:=Lib.hid h1.v64
 have hpl:=blk_lt h1.obj
 clear h1 hl
 go_enter Tryz.func19,Tryz.ntmps19
 go_wp2_with (go_at_call 42;refine (HC.out).mono ?_;rintro e w5 ⟨v5,rfl,hr,hb⟩;have HR:=Lib.hid hr;have HB:=Lib.hid hb;clear hr hb)
 go_ret
 exact ⟨_,_,rfl,HR.out,HV.out,HO.out,H64.out,HB.out⟩
end Go.Proofs.YtmfpmandkhiknaaGreatDoor.vmm
namespace Go.Proofs.YtmfpmandkhiknaaGreatDoor.mkr
open Go Go.RowKit
open heap vmm
theorem vars_cells {W:World} {b:Nat} {v:Value} {V:Vs} (h:VRow W b v V) (hl:V.length = 64):∃ g c,v = .slice (some ⟨g,0,none⟩) 64 c ∧ ∀ i x,V[i]? = some x → W.cell? ⟨g,i * 3,none⟩ = some (.bool x.1.isT) ∧ W.cell? ⟨g,i * 3 + 1,none⟩ = some (.string ⟨x.1.text.toArray⟩) ∧ W.cell? ⟨g,i * 3 + 2,none⟩ = some (.float .f64 x.2):=by
 have hcl := @World.ownsRow.cells _ _ _ _ _ _ _ h
 obtain ⟨_,⟨_,h0⟩ | ⟨g,c,cur,hv,_⟩⟩:=h
 ·omega
 ·subst hv
  refine ⟨g,c,by rw [hl],fun i x hx => ?_⟩
  obtain ⟨c0,c1,c2⟩:=vCs_get V i x hx
  exact ⟨by rw [← lex.add0];exact hcl (g:=g) rfl _ _ c0,by rw [← lex.add0];exact hcl (g:=g) rfl _ _ c1,by rw [← lex.add0];exact hcl (g:=g) rfl _ _ c2⟩
theorem Vars_at (b p:Nat) (m:Mac) (cv sv:Value) (C:Is) (w:World) (h:MO b w p m cv sv C) :
  Calls Tryz.prog 19 #[.pointer (some ⟨p,0,none⟩)] w fun e w'=>∃ g c,e = .returned (.slice (some ⟨g,0,none⟩) 64 c) ∧ (∀ i,i < 64 → ∃ r,NumOk (m.vars.getD i zeroV) r ∧ w'.cell? ⟨g,i * 3,none⟩ = some (.bool (m.vars.getD i zeroV).isT) ∧ w'.cell? ⟨g,i * 3 + 1,none⟩ = some (.string ⟨(m.vars.getD i zeroV).text.toArray⟩) ∧ w'.cell? ⟨g,i * 3 + 2,none⟩ = some (.float .f64 r)) ∧ Below w.heap.size w w':=
 (Vars_all p m cv sv C w h.at').mono fun e w' ⟨v,V,he,hr,hV,hok,hlen,hb⟩=>by
  obtain ⟨g,c,hv,hc⟩:=vars_cells hr hlen
  refine ⟨g,c,by rw [he,hv],fun i hi => ?_,hb⟩
  have hg:V[i]? = some (V[i]'(by omega)):=List.getElem?_eq_getElem (by omega)
  have e2:m.vars.getD i zeroV = (V[i]'(by omega)).1:=by
   rw [← hV,List.getD_eq_getElem?_getD,List.getElem?_map,hg]
   rfl
  rw [e2]
  exact ⟨_,hok _ (List.getElem_mem _),hc i _ hg⟩
end Go.Proofs.YtmfpmandkhiknaaGreatDoor.mkr
namespace Go.Proofs.YtmfpmandkhiknaaGreatDoor.num
open Go.RowKit
theorem infoD:(Tryz.prog.info? 5).map (fun i=>(i.zero,i.size,i.bytes)) = some (some (.int .u8 0),1,1):=by kernel_rfl
theorem app_nilD (w:World) (g:Nat):(Builtin.append_ #[58,58] 58 #[.slice (some ⟨g,0,none⟩) 1 1,.slice none 0 0]).run Tryz.prog w = .ok (.slice (some ⟨g,0,none⟩) 1 1) w:=by
 obtain ⟨i0,hi,hz0,hz1,hz2⟩:=info_parts infoD
 exact run_append_nothing w _ _ _ 5 i0 Tryz.underlying58 hi _ 1 1 (Nat.le_refl _) _ (Src.ofNil w Tryz.underlying58 0)
theorem row_one (w:World) (v:Value) (base:Nat) (hb:base ≤ w.heap.size):(w.alloc (.cells #[v] 5 (0,0))).ownsRow base 5 1 (.slice (some ⟨w.heap.size,0,none⟩) 1 1) 1 [v]:=
 ⟨by simp,.inr ⟨w.heap.size,1,#[v],rfl,hb,heap_alloc_new w _,Nat.le_refl _,by decide,by simp,by simp⟩⟩
def DigAt (w:World) (x:Nat) (vs vo:Value) (wr:World) (k:Nat):Prop:=
 vs = .int .u64 ((x / 10 ^ k:Nat):Int) ∧ wr.ownsRow w.heap.size 5 1 vo k ((digsTo x k).map byteV) ∧ (k ≤ 1 ∨ x / 10 ^ (k - 1) ≠ 0) ∧ Below w.heap.size w wr
theorem DigAt.row {w wr:World} {x k:Nat} {vs vo:Value} (h:DigAt w x vs vo wr (k + 1)):∃ g cap,vo = .slice (some ⟨g,0,none⟩) (k + 1) cap:=by
 obtain ⟨_,⟨_,h2 | ⟨g,cap,cur,h2,_⟩⟩,_⟩:=h
 ·omega
 ·exact ⟨g,cap,h2⟩
theorem own_rowis {w:World} {base g n cap:Nat} {l:List UInt8} (h:w.ownsRow base 5 1 (.slice (some ⟨g,0,none⟩) n cap) n (l.map byteV)):row.RowIs w g l ∧ l.length = n:=by
 obtain ⟨h1,h2 | ⟨g',cap',cur,h2,_,h4,h5,_,h7,h8⟩⟩:=h
 ·exact absurd h2.1 (by simp)
 ·cases h2
  have hl:l.length = n:=by simpa using h1
  refine ⟨⟨cur,0,0,h4,by simp,?_,fun i hi => ?_⟩,hl⟩
  ·rw [hl,h7];omega
  ·have e:(cur.toList.take (n * 1))[i]? = (l.map byteV)[i]?:=by rw [h8]
   rw [List.getElem?_take_of_lt (by omega),List.getElem?_map,List.getElem?_eq_getElem hi] at e
   rw [← Array.getElem?_toList,e]
   simp [byteV,row.byteV,hi]
theorem digs_ten (x k:Nat):x / 10 ^ (k + 1) = x / 10 ^ k / 10:=by rw [Nat.pow_succ,Nat.div_div_eq_div_mul]
def nilOne:Value → Nat
 | .slice none _ _=>1
 | _=>0
set_option maxRecDepth 100000 in
set_option maxHeartbeats 2000000 in
theorem Decimal_nat (x:Nat) (hx:x < 9223372036854775808) (w:World):Calls Tryz.prog 23 #[.int .i64 x] w fun e w'=>e = .returned (.string (decS x)) ∧ Below w.heap.size w w':=by
 have hu:IntKind.u64.wrap (x:Int) = x:=by rw [IntKind.wrap_u64];omega
 have hn0:decide ((x:Int) < 0) = false:=decide_eq_false (by omega)
 have H0:Hid (DigAt w x (.int .u64 x) (.slice none 0 0) w 0):=⟨by simp,World.ownsRow_nil _ _ _ _,.inl (by omega),Below.refl _ _⟩
 go_enter Tryz.func23,Tryz.ntmps23
 go_wp2_with fail
 go_loopw [3,4] (fun vs vo wr=>(vo = .slice none 0 0 ∧ DigAt w x vs vo wr 0) ∨ (∃ k,DigAt w x vs vo wr (k + 1))) (fun vs vo _=>(intOf vs).toNat + nilOne vo)
 case atStart=>exact .inl ⟨rfl,H0.out⟩
 case round =>
  clear hu
  rcases hrel with ⟨rfl,rfl,hown,_,hbl⟩ | ⟨k,hd⟩
  ·have h1:x / 10 ^ 0 = x:=by simp
   rw [h1]
   have HB:Hid (Below w.heap.size w wr):=hbl
   have HA:=Lib.hid (fun W:World=>app_nilD W wr.heap.size)
   have HR:Hid (∃ k,DigAt w x (.int .u64 ((x / 10:Nat):Int)) (.slice (some ⟨wr.heap.size,0,none⟩) 1 1) (wr.alloc (.cells #[.int .u8 (48 + (x:Int) % 10)] 5 (0,0))) (k + 1)):=by
    refine ⟨0,by simp,?_,.inl (by omega),hbl.alloc hbl.size _⟩
    have:=row_one wr (.int .u8 (48 + (x:Int) % 10)) w.heap.size hbl.size
    rw [digitV] at this ⊢
    simpa [digsTo] using this
   clear hown hbl h1
   have hxb:(x:Int) ≤ 9223372036854775807:=by omega
   by_cases h0:0 < x
   ·have hg:decide ((0:Int) < x) = true:=decide_eq_true (by omega)
    go_wp2_with (at_builtin;refine reg.wpList_append rfl rfl rfl rfl rfl (HA.out _) ?_)
    go_roundw
    case rel=>exact .inr (by first | exact HR.out | simpa using HR.out)
    case measure=>simp [intOf,nilOne];omega
   ·have hg:decide ((0:Int) < x) = false:=decide_eq_false (by omega)
    go_wp2_with (at_builtin;refine reg.wpList_append rfl rfl rfl rfl rfl (HA.out _) ?_)
    go_roundw
    case rel=>exact .inr (by first | exact HR.out | simpa using HR.out)
    case measure=>simp [intOf,nilOne];omega
  ·obtain ⟨g,cap,rfl⟩:=hd.row
   obtain ⟨rfl,hown,hk,hbl⟩:=hd
   have hsx:x / 10 ^ (k + 1) ≤ x:=Nat.div_le_self _ _
   have hk20:k < 20:=by
    refine below_ten x k (by unfold U64;omega) ?_
    rcases hk with hk | hk
    ·left;omega
    ·right;exact hk
   have hk0:(((k + 1:Nat):Int) == 0) = false:=beq_eq_false_iff_ne.2 (by omega)
   by_cases hs:0 < x / 10 ^ (k + 1)
   ·obtain ⟨i0,hi,hz0,hz1,hz2⟩:=info_parts infoD
    have hown2:=hown.alloc (.cells #[.int .u8 (48 + ((x / 10 ^ (k + 1):Nat):Int) % 10)] 5 (0,0))
    obtain ⟨v',w',hrun,hown',hgrow,_⟩:=run_append_own (P:=Tryz.prog) (wr.alloc (.cells #[.int .u8 (48 + ((x / 10 ^ (k + 1):Nat):Int) % 10)] 5 (0,0))) w.heap.size 58 58 5 i0 (.int .u8 0) 1 1 Tryz.underlying58 hi hz0 hz1 hz2 rfl (by decide)
     (.slice (some ⟨wr.heap.size,0,none⟩) 1 1) 1 [.int .u8 (48 + ((x / 10 ^ (k + 1):Nat):Int) % 10)] (row_one wr _ _ hbl.size) ⟨g,0,none⟩ (k + 1) cap ((digsTo x (k + 1)).map byteV) (by rw [List.length_map,digsTo_len];omega)
     (fun j u hj=>hown2.cells rfl j u hj) (fun u hu=>by obtain ⟨c,_,rfl⟩:=List.mem_map.1 hu;rfl) (by unfold maxLen;omega) (by omega) (by have:=hbl.size;simp;omega)
    have HR:Hid (DigAt w x (.int .u64 ((x / 10 ^ (k + 1) / 10:Nat):Int)) v' w' (k + 1 + 1)):=by
     refine ⟨by rw [digs_ten x (k + 1)],?_,.inr (by rw [Nat.add_sub_cancel];omega),?_⟩
     ·rw [digsTo,List.map_cons,← digitV,Nat.add_comm (k + 1) 1]
      exact hown'
     ·refine (hbl.alloc hbl.size _).grown hgrow (by have:=hbl.size;simp;omega) (fun j hj => ?_)
      have:j = wr.heap.size:=(Option.some.inj hj).symm
      rw [this];exact hbl.size
    have Hrun:=Lib.hid hrun
    have hv:nilOne v' = 0:=by
     obtain ⟨g',cap',e⟩:=HR.out.row
     rw [e];rfl
    have HV:=Lib.hid hv
    clear hown' hgrow hrun hown2 hi hz0 hz1 hz2 hown hbl hk hv
    generalize x / 10 ^ (k + 1) = s at *
    have hg:decide ((0:Int) < s) = true:=decide_eq_true (by omega)
    go_wp2_with (at_builtin;refine reg.wpList_append rfl rfl rfl rfl rfl Hrun.out ?_)
    go_roundw
    case rel=>exact .inr ⟨k + 1,by first | exact HR.out | simpa using HR.out⟩
    case measure=>simp [intOf,HV.out,show nilOne (.slice (some ⟨g,0,none⟩) (k + 1) cap) = 0 from rfl];omega
   ·have hs0:x / 10 ^ (k + 1) = 0:=Nat.eq_zero_of_not_pos hs
    rw [hs0]
    obtain ⟨hrow,hlen⟩:=own_rowis hown
    have hcv:=hrow.conv cap
    rw [hlen] at hcv
    have HE:Hid (decS x = ⟨(digsTo x (k + 1)).toArray⟩):=by
     unfold Hid decS
     rw [decL_digs x k hs0 (by rcases hk with hk | hk;exact .inl (by omega);exact .inr hk) (by omega)]
    have HB:Hid (Below w.heap.size w wr):=hbl
    clear hown hbl hk hs hs0 hsx hrow hlen
    go_wp2_with fail
    go_ret
    exact ⟨ret_str HE.out.symm,HB.out⟩
end Go.Proofs.YtmfpmandkhiknaaGreatDoor.num
namespace Go.Proofs.YtmfpmandkhiknaaGreatDoor.mkr
open Go Go.RowKit Ieee
open heap vmm
open flt
open num (decL)
open par (stmtsR)
open many (envOf st0)
open lex (tok scanF scanL skp letB runB numEnd Tk)
set_option maxRecDepth 1000000
def lpA:List UInt8 := [115,101,116,32,105,32,61,32,48,59,32,115,101,116,32,115,32,61,32,48,59,32,119,104,105,108,101,32,105,32,60,32]
def lpB:List UInt8 := [32,123,32,115,101,116,32,115,32,61,32,115,32,43,32]
def lpC:List UInt8 := [59,32,115,101,116,32,105,32,61,32,105,32,43,32,49,59,32,125]
def lpS (k b:List UInt8):List UInt8:=lpA ++ (k ++ (lpB ++ (b ++ lpC)))
theorem dec_ok:∀ n,n < 1024 → ofT (decL n) = some (fl n):=by decide +kernel
theorem dec_all (n:Nat) (h:n < 1024):(decL n).all isD = true ∧ 1 ≤ (decL n).length:=by
 obtain ⟨h1,-,h3⟩:=decL_all n (by omega)
 exact ⟨h1,h3⟩
theorem runB_app (l:List UInt8) (c:UInt8) (R:List UInt8) (h:l.all isD = true) (hc:isD c = false):runB isD (l ++ c :: R) = l.length:=by
 unfold runB
 induction l with
 | nil=>rw [List.nil_append,List.takeWhile_cons,hc];rfl
 | cons x l ih =>
  rw [List.all_cons,Bool.and_eq_true] at h
  rw [List.cons_append,List.takeWhile_cons,h.1,if_pos rfl,List.length_cons,ih h.2,List.length_cons]
theorem tok_dec (n:Nat) (h:n < 1024) (c:UInt8) (R:List UInt8) (hc:isD c = false) (hl:letB c = false) (hd:(c == 46) = false):tok (decL n ++ c :: R) = .ok (2,decL n,fl n,(decL n).length):=by
 obtain ⟨h1,h2⟩:=dec_all n h
 have hof:=dec_ok n h
 generalize decL n = l at *
 have hr:=runB_app l c R h1 hc
 have hg:(l ++ c :: R).getD l.length 0 = c:=by simp
 have h0:(l ++ c :: R).getD 0 0 = l.getD 0 0:=by
  cases l with
  | nil=>simp at h2
  | cons x l=>rfl
 have hD:isD (l.getD 0 0) = true:=by
  cases l with
  | nil=>simp at h2
  | cons x l=>rw [List.all_cons,Bool.and_eq_true] at h1;exact h1.1
 have hL:letB (l.getD 0 0) = false:=by
  generalize l.getD 0 0 = x at hD
  have:∀ n:Fin 256,isD (UInt8.ofNat n.val) = true → letB (UInt8.ofNat n.val) = false:=by decide +kernel
  have:=this ⟨x.toNat,x.toNat_lt⟩
  simp only [UInt8.ofNat_toNat] at this
  exact this hD
 have hn:numEnd (l ++ c :: R) = l.length:=by
  unfold numEnd
  rw [hr,hg,hd,Bool.and_false,Bool.false_and]
  rfl
 unfold lex.tok
 rw [h0,hL,if_neg Bool.false_ne_true,hD,if_pos rfl,hn,List.take_left,hof]
 simp only [hg,hl,hd,Bool.or_self,Bool.and_false]
 rfl
def lpK3 (a:Nat):List Tk := [⟨4,[59],0,a⟩,⟨1,[115,101,116],0,a + 2⟩,⟨1,[105],0,a + 6⟩,⟨4,[61],0,a + 8⟩,⟨1,[105],0,a + 10⟩,⟨4,[43],0,a + 12⟩,⟨2,[49],4607182418800017408,a + 14⟩,⟨4,[59],0,a + 15⟩,⟨4,[125],0,a + 17⟩,⟨0,[],0,a + 18⟩]
theorem sc1 {t u:List UInt8} {k:Int} {tx:List UInt8} {n len q f a:Nat} (ht:t ≠ []) (h:tok t = .ok (k,tx,n,len)) (hu:t.drop len = u) (hs:skp false u = q) :
  scanF (f + 1) t a = (⟨k,tx,n,a⟩ :: (scanF f (u.drop q) (a + len + q)).1,(scanF f (u.drop q) (a + len + q)).2):=by
 rw [scanF,if_neg ht,h]
 simp only
 rw [hu,hs]
theorem skp_dec (n:Nat) (h:n < 1024) (R:List UInt8):skp false (decL n ++ R) = 0:=by
 obtain ⟨h1,h2⟩:=dec_all n h
 generalize decL n = l at *
 cases l with
 | nil=>simp at h2
 | cons x l =>
  rw [List.all_cons,Bool.and_eq_true] at h1
  have h3:=h1.1
  have:∀ n:Fin 256,isD (UInt8.ofNat n.val) = true → lex.blankB (UInt8.ofNat n.val) = false ∧ ¬ UInt8.ofNat n.val = 35:=by decide +kernel
  have:=this ⟨x.toNat,x.toNat_lt⟩
  simp only [UInt8.ofNat_toNat] at this
  obtain ⟨g1,g2⟩:=this h3
  rw [List.cons_append,skp,g1,if_neg Bool.false_ne_true,if_neg g2]
theorem scan_A0 (R:List UInt8) (f a:Nat):scanF (f + 12) (115 :: 101 :: 116 :: 32 :: 105 :: 32 :: 61 :: 32 :: 48 :: 59 :: 32 :: 115 :: 101 :: 116 :: 32 :: 115 :: 32 :: 61 :: 32 :: 48 :: 59 :: 32 :: 119 :: 104 :: 105 :: 108 :: 101 :: 32 :: 105 :: 32 :: 60 :: 32 :: R) a = (⟨1,[115,101,116],0,a⟩ :: ⟨1,[105],0,a + 4⟩ :: ⟨4,[61],0,a + 6⟩ :: ⟨2,[48],0,a + 8⟩ :: ⟨4,[59],0,a + 9⟩ :: ⟨1,[115,101,116],0,a + 11⟩ :: ⟨1,[115],0,a + 15⟩ :: ⟨4,[61],0,a + 17⟩ :: ⟨2,[48],0,a + 19⟩ :: ⟨4,[59],0,a + 20⟩ :: ⟨1,[119,104,105,108,101],0,a + 22⟩ :: ⟨1,[105],0,a + 28⟩ :: (scanF f (60 :: 32 :: R) (a + 30)).1,(scanF f (60 :: 32 :: R) (a + 30)).2):=by kernel_rfl
theorem scan_B0 (R:List UInt8) (f a:Nat):scanF (f + 5) (123 :: 32 :: 115 :: 101 :: 116 :: 32 :: 115 :: 32 :: 61 :: 32 :: 115 :: 32 :: 43 :: 32 :: R) a = (⟨4,[123],0,a⟩ :: ⟨1,[115,101,116],0,a + 2⟩ :: ⟨1,[115],0,a + 6⟩ :: ⟨4,[61],0,a + 8⟩ :: ⟨1,[115],0,a + 10⟩ :: (scanF f (43 :: 32 :: R) (a + 12)).1,(scanF f (43 :: 32 :: R) (a + 12)).2):=by kernel_rfl
theorem scan_C (f a:Nat):scanF (f + 10) lpC a = (lpK3 a,0,0):=by kernel_rfl
theorem scan_N (n:Nat) (h:n < 1024) (c:UInt8) (R:List UInt8) (hc:isD c = false) (hl:letB c = false) (hd:(c == 46) = false) (f a q:Nat) (hq:skp false (c :: R) = q) :
  scanF (f + 1) (decL n ++ c :: R) a = (⟨2,decL n,fl n,a⟩ :: (scanF f ((c :: R).drop q) (a + (decL n).length + q)).1,(scanF f ((c :: R).drop q) (a + (decL n).length + q)).2):=
 sc1 (by simp) (tok_dec n h c R hc hl hd) List.drop_left hq
def lpG (p:Nat → Nat) (k b:List UInt8) (x y:Nat):List Tk := [⟨1,[115,101,116],0,p 0⟩,⟨1,[105],0,p 1⟩,⟨4,[61],0,p 2⟩,⟨2,[48],0,p 3⟩,⟨4,[59],0,p 4⟩,⟨1,[115,101,116],0,p 5⟩,⟨1,[115],0,p 6⟩,⟨4,[61],0,p 7⟩,⟨2,[48],0,p 8⟩,⟨4,[59],0,p 9⟩,⟨1,[119,104,105,108,101],0,p 10⟩,⟨1,[105],0,p 11⟩,⟨4,[60],0,p 12⟩,⟨2,k,x,p 13⟩,⟨4,[123],0,p 14⟩,⟨1,[115,101,116],0,p 15⟩,⟨1,[115],0,p 16⟩,⟨4,[61],0,p 17⟩,⟨1,[115],0,p 18⟩,⟨4,[43],0,p 19⟩,⟨2,b,y,p 20⟩,⟨4,[59],0,p 21⟩,⟨1,[115,101,116],0,p 22⟩,⟨1,[105],0,p 23⟩,⟨4,[61],0,p 24⟩,⟨1,[105],0,p 25⟩,⟨4,[43],0,p 26⟩,⟨2,[49],4607182418800017408,p 27⟩,⟨4,[59],0,p 28⟩,⟨4,[125],0,p 29⟩,⟨0,[],0,p 30⟩]
theorem scan_S (k b:Nat) (hk:k < 1024) (hb:b < 1024):∃ p,scanL (lpS (decL k) (decL b)) = (lpG p (decL k) (decL b) (fl k) (fl b),0,0):=by
 have hlk:(decL k).length ≤ 20:=by
  have:=decL_len 19 k (by omega) (by omega)
  omega
 have hlb:(decL b).length ≤ 20:=by
  have:=decL_len 19 b (by omega) (by omega)
  omega
 have hlen:(lpS (decL k) (decL b)).length = (decL k).length + (decL b).length + 65:=by
  unfold lpS lpA lpB lpC
  simp only [List.length_append,List.length_cons,List.length_nil]
  omega
 have hsk:skp false (lpS (decL k) (decL b)) = 0:=by rfl
 unfold scanL
 rw [if_neg (by omega),hsk,List.drop_zero,hlen]
 obtain ⟨f,hf⟩:∃ f,(decL k).length + (decL b).length + 65 + 1 = f + 31:=⟨(decL k).length + (decL b).length + 35,by omega⟩
 rw [hf]
 have e1:lpS (decL k) (decL b) = 115 :: 101 :: 116 :: 32 :: 105 :: 32 :: 61 :: 32 :: 48 :: 59 :: 32 :: 115 :: 101 :: 116 :: 32 :: 115 :: 32 :: 61 :: 32 :: 48 :: 59 :: 32 :: 119 :: 104 :: 105 :: 108 :: 101 :: 32 :: 105 :: 32 :: 60 :: 32 :: (decL k ++ 32 :: 123 :: 32 :: 115 :: 101 :: 116 :: 32 :: 115 :: 32 :: 61 :: 32 :: 115 :: 32 :: 43 :: 32 :: (decL b ++ 59 :: 32 :: 115 :: 101 :: 116 :: 32 :: 105 :: 32 :: 61 :: 32 :: 105 :: 32 :: 43 :: 32 :: 49 :: 59 :: 32 :: 125 :: [])):=rfl
 rw [e1,show f + 31 = f + 19 + 12 by omega,scan_A0]
 rw [show f + 19 = f + 18 + 1 by omega]
 rw [sc1 (k:=4) (tx := [60]) (n:=0) (len:=1) (q:=1) (u:=32 :: (decL k ++ 32 :: 123 :: 32 :: 115 :: 101 :: 116 :: 32 :: 115 :: 32 :: 61 :: 32 :: 115 :: 32 :: 43 :: 32 :: (decL b ++ 59 :: 32 :: 115 :: 101 :: 116 :: 32 :: 105 :: 32 :: 61 :: 32 :: 105 :: 32 :: 43 :: 32 :: 49 :: 59 :: 32 :: 125 :: []))) (by simp) rfl rfl (by rw [skp,if_pos (by decide),skp_dec k hk])]
 rw [List.drop_succ_cons,List.drop_zero,show f + 18 = f + 17 + 1 by omega]
 rw [scan_N k hk 32 _ (by decide) (by decide) (by decide) _ _ 1 rfl]
 rw [List.drop_succ_cons,List.drop_zero,show f + 17 = f + 12 + 5 by omega,scan_B0]
 rw [show f + 12 = f + 11 + 1 by omega]
 rw [sc1 (t:=43 :: _) (k:=4) (tx := [43]) (n:=0) (len:=1) (q:=1) (u:=32 :: (decL b ++ 59 :: 32 :: 115 :: 101 :: 116 :: 32 :: 105 :: 32 :: 61 :: 32 :: 105 :: 32 :: 43 :: 32 :: 49 :: 59 :: 32 :: 125 :: [])) (by simp) rfl rfl (by rw [skp,if_pos (by decide),skp_dec b hb])]
 rw [List.drop_succ_cons,List.drop_zero,show f + 11 = f + 10 + 1 by omega]
 rw [scan_N b hb 59 _ (by decide) (by decide) (by decide) _ _ 0 rfl]
 rw [List.drop_zero]
 have e3:=scan_C f
 unfold lpC at e3
 simp only [e3]
 generalize (decL k).length = lk
 generalize (decL b).length = lb
 refine ⟨fun i=>if i < 13 then [0,4,6,8,9,11,15,17,19,20,22,28,30].getD i 0 else if i = 13 then 32 else if i < 20 then 32 + lk + 1 + [0,2,6,8,10,12].getD (i - 14) 0 else if i = 20 then 32 + lk + 1 + 14 else 32 + lk + 1 + 14 + lb + [0,2,6,8,10,12,14,15,17,18].getD (i - 21) 0,?_⟩
 rfl
def lpI (x y:Nat):List Ins := [⟨1,0,0,[]⟩,⟨4,0,0,[]⟩,⟨1,0,0,[]⟩,⟨4,1,0,[]⟩,⟨3,0,0,[]⟩,⟨1,0,x,[]⟩,⟨14,0,0,[]⟩,⟨16,17,0,[]⟩,⟨3,1,0,[]⟩,⟨1,0,y,[]⟩,⟨7,0,0,[]⟩,⟨4,1,0,[]⟩,⟨3,0,0,[]⟩,⟨1,0,4607182418800017408,[]⟩,⟨7,0,0,[]⟩,⟨4,0,0,[]⟩,⟨15,4,0,[]⟩,⟨0,0,0,[]⟩]
def codeT (ts:List Tk):Option (List Ins):=match stmtsR ⟨ts,0,0⟩ 1600024 100002 [] st0 with
 | some (ks,s2)=>if s2.code = 0 then codeC (.mk 8 [] 0 ks 0) else none
 | none=>none
theorem code_G (p:Nat → Nat) (k b:List UInt8) (x y:Nat):codeT (lpG p k b x y) = some (lpI x y):=by kernel_rfl
theorem code_S (k b:Nat) (hk:k < 1024) (hb:b < 1024):codeS (lpS (decL k) (decL b)) = some (lpI (fl k) (fl b)):=by
 obtain ⟨p,hp⟩:=scan_S k b hk hb
 have e2:envOf (lpS (decL k) (decL b)) = ⟨lpG p (decL k) (decL b) (fl k) (fl b),0,0⟩:=by
  unfold envOf
  rw [hp]
  rfl
 unfold codeS
 rw [e2]
 have h:=code_G p (decL k) (decL b) (fl k) (fl b)
 unfold codeT at h
 generalize stmtsR ⟨lpG p (decL k) (decL b) (fl k) (fl b),0,0⟩ 1600024 100002 [] st0 = o at h ⊢
 cases o with
 | none=>cases h
 | some q=>exact h
/-! the machine -/
def mS (C:List Ins) (pc:Int) (fu ran:Int) (stk vs:List Val):Mac:=⟨C,pc,fu,ran,stk,vs,0,noCal,[],0,[]⟩
section
variable {C:List Ins} {pc:Int} {fu ran:Int} {stk vs:List Val} {i:Ins}
theorem round_at (h:C.getD pc.toNat ⟨0,0,0,[]⟩ = i) (hp:pc < C.length) (hf:fu ≠ 0):roundM (mS C pc fu ran stk vs) = match doM (mS C (pc + 1) (fu - 1) (ran + 1) stk vs) i with
  | .ok m2=>m2
  | .error e=>failM (mS C (pc + 1) (fu - 1) (ran + 1) stk vs) e:=by
 unfold roundM
 rw [if_neg (show ¬ (((mS C pc fu ran stk vs).code.length:Int) ≤ (mS C pc fu ran stk vs).pc) by show ¬ ((C.length:Int) ≤ pc);omega),if_neg (show ¬ (mS C pc fu ran stk vs).fuel = 0 from hf)]
 show (match doM (mS C (pc + 1) (fu - 1) (ran + 1) stk vs) (C.getD pc.toNat ⟨0,0,0,[]⟩) with
  | .ok m2=>m2
  | .error e=>failM (mS C (pc + 1) (fu - 1) (ran + 1) stk vs) e) = _
 rw [h]
end
theorem do_num (C:List Ins) (pc fu ran:Int) (stk vs:List Val) (x:Nat) (h:stk.length < 64):doM (mS C pc fu ran stk vs) ⟨1,0,x,[]⟩ = .ok (mS C pc fu ran (stk ++ [numV x]) vs):=by
 show pushM _ (numV x) = _
 unfold pushM
 rw [if_neg (by show ¬ 1024 < ([]:List UInt8).length;decide),if_neg (by show ¬ 64 ≤ stk.length;omega)]
 rfl
theorem do_load (C:List Ins) (pc fu ran:Int) (stk vs:List Val) (j:Int) (x:Nat) (hv:vs.getD j.toNat zeroV = numV x) (h:stk.length < 64):doM (mS C pc fu ran stk vs) ⟨3,j,0,[]⟩ = .ok (mS C pc fu ran (stk ++ [numV x]) vs):=by
 show pushM _ (vs.getD j.toNat zeroV) = _
 rw [hv]
 unfold pushM
 rw [if_neg (by show ¬ 1024 < ([]:List UInt8).length;decide),if_neg (by show ¬ 64 ≤ stk.length;omega)]
 rfl
theorem do_store (C:List Ins) (pc fu ran:Int) (vs:List Val) (j:Int) (x:Val):doM (mS C pc fu ran [x] vs) ⟨4,j,0,[]⟩ = .ok (mS C pc fu ran [] (vs.set j.toNat x)):=rfl
theorem do_add (C:List Ins) (pc fu ran:Int) (vs:List Val) (x y:Nat):doM (mS C pc fu ran [numV x,numV y] vs) ⟨7,0,0,[]⟩ = .ok (mS C pc fu ran [numV (opC .add x y)] vs):=rfl
theorem do_less (C:List Ins) (pc fu ran:Int) (vs:List Val) (x y:Nat):doM (mS C pc fu ran [numV x,numV y] vs) ⟨14,0,0,[]⟩ = .ok (mS C pc fu ran [flagV (double.order x y == some .lt)] vs):=by
 show (match (Except.ok (flagV ((false && Op.bytesLess [] []) || (!false && double.order x y == some .lt))):Except Bad Val) with
   | .error e=>(Except.error e:Except Bad Mac)
   | .ok v=>pushM (mS C pc fu ran [] vs) v) = _
 rw [Bool.false_and,Bool.false_or,Bool.not_false,Bool.true_and]
 cases (double.order x y == some .lt) <;> rfl
theorem do_jz (C:List Ins) (pc fu ran:Int) (vs:List Val) (j:Int) (b:Bool):doM (mS C pc fu ran [flagV b] vs) ⟨16,j,0,[]⟩ = .ok (mS C (if b then pc else j) fu ran [] vs):=by
 have t1:truth (flagV true) = true:=by decide +kernel
 have t2:truth (flagV false) = false:=by decide +kernel
 show Except.ok (if truth (flagV b) then mS C pc fu ran [] vs else mS C j fu ran [] vs) = _
 cases b
 ·rw [t2];rfl
 ·rw [t1];rfl
theorem do_jmp (C:List Ins) (pc fu ran:Int) (stk vs:List Val) (j:Int):doM (mS C pc fu ran stk vs) ⟨15,j,0,[]⟩ = .ok (mS C j fu ran stk vs):=rfl
theorem do_end (C:List Ins) (pc fu ran:Int) (stk vs:List Val):doM (mS C pc fu ran stk vs) ⟨0,0,0,[]⟩ = .ok { mS C pc fu ran stk vs with state:=2 }:=rfl
theorem run_one (n:Nat) (C:List Ins) (pc fu ran:Int) (stk vs:List Val) (i:Ins) (m2:Mac) (h:C.getD pc.toNat ⟨0,0,0,[]⟩ = i) (hp:pc < C.length) (hf:fu ≠ 0) (hd:doM (mS C (pc + 1) (fu - 1) (ran + 1) stk vs) i = .ok m2):runM (n + 1) (mS C pc fu ran stk vs) = runM n m2:=by
 rw [runM,if_pos (show (mS C pc fu ran stk vs).state = 0 from rfl),round_at h hp hf,hd]
theorem cf_fl (n:Nat) (h:n ≤ 9007199254740992):cf (fl n) = fl n:=by
 refine cf_ok ?_
 unfold nanB
 rw [read_fin _ (fin_fl n h)]
 rfl
theorem add_fl (n k:Nat) (hn:n < 9007199254740992) (hk:k < 9007199254740992) (h:n + k ≤ 9007199254740992):opC .add (fl n) (fl k) = fl (n + k):=by
 unfold opC
 rw [add_int n k hn hk]
 exact cf_fl _ h
theorem less_fl (n k:Nat) (hn:n ≤ 9007199254740992) (hk:k ≤ 9007199254740992):(double.order (fl n) (fl k) == some .lt) = decide (n < k):=by
 rw [order_fin _ _ (fin_fl n hn) (fin_fl k hk),val_fl n hn,val_fl k hk]
 have hP:0 < 2 ^ flt.PP:=Nat.pow_pos (by decide)
 generalize 2 ^ flt.PP = P at *
 rw [Int.natCast_mul,Int.natCast_mul,cmp_scale _ _ _ hP]
 simp only [compare,compareOfLessAndEq]
 by_cases h:n < k
 ·rw [if_pos (by omega),decide_eq_true h];rfl
 ·rw [if_neg (by omega),decide_eq_false h]
  split <;> rfl
theorem one_fl:(4607182418800017408:Nat) = fl 1:=by decide +kernel
theorem zero_fl:(0:Nat) = fl 0:=by decide +kernel
def lpH (k b:Nat) (fu ran:Int) (i s:Nat):Mac:=mS (lpI (fl k) (fl b)) 4 fu ran [] (numV (fl i) :: numV (fl s) :: List.replicate 62 zeroV)
theorem lp_begin (k b n:Nat) (fu:Int) (hf:4 ≤ fu):runM (n + 4) (newM (lpI (fl k) (fl b)) fu) = runM n (lpH k b (fu - 4) 4 0 0):=by
 show runM (n + 4) (mS (lpI (fl k) (fl b)) 0 fu 0 [] (List.replicate 64 zeroV)) = _
 refine (run_one (n + 3) _ _ _ _ _ _ ⟨1,0,0,[]⟩ _ rfl (show (0:Int) < ((18:Nat):Int) by decide) (by omega) (do_num _ _ _ _ _ _ 0 (by decide))).trans ?_
 refine (run_one (n + 2) _ _ _ _ _ _ ⟨4,0,0,[]⟩ _ rfl (show (1:Int) < ((18:Nat):Int) by decide) (by omega) (do_store _ _ _ _ _ _ (numV 0))).trans ?_
 refine (run_one (n + 1) _ _ _ _ _ _ ⟨1,0,0,[]⟩ _ rfl (show (2:Int) < ((18:Nat):Int) by decide) (by omega) (do_num _ _ _ _ _ _ 0 (by decide))).trans ?_
 refine (run_one n _ _ _ _ _ _ ⟨4,1,0,[]⟩ _ rfl (show (3:Int) < ((18:Nat):Int) by decide) (by omega) (do_store _ _ _ _ _ _ (numV 0))).trans ?_
 have e:fu - 1 - 1 - 1 - 1 = fu - 4:=by omega
 rw [e]
 unfold lpH
 rw [← zero_fl]
 rfl
theorem lp_head (k b n:Nat) (fu ran:Int) (i s:Nat) (hi:i < 9007199254740992) (hk:k < 9007199254740992) (hf:4 ≤ fu) :
  runM (n + 4) (lpH k b fu ran i s) = runM n (mS (lpI (fl k) (fl b)) (if decide (i < k) then 8 else 17) (fu - 4) (ran + 4) [] (numV (fl i) :: numV (fl s) :: List.replicate 62 zeroV)):=by
 unfold lpH
 refine (run_one (n + 3) _ _ _ _ _ _ ⟨3,0,0,[]⟩ _ rfl (show (4:Int) < ((18:Nat):Int) by decide) (by omega) (do_load _ _ _ _ _ _ 0 (fl i) rfl (by decide))).trans ?_
 refine (run_one (n + 2) _ _ _ _ _ _ ⟨1,0,fl k,[]⟩ _ rfl (show (5:Int) < ((18:Nat):Int) by decide) (by omega) (do_num _ _ _ _ _ _ (fl k) (by simp))).trans ?_
 refine (run_one (n + 1) _ _ _ _ _ _ ⟨14,0,0,[]⟩ _ rfl (show (6:Int) < ((18:Nat):Int) by decide) (by omega) (do_less _ _ _ _ _ (fl i) (fl k))).trans ?_
 rw [less_fl i k (by omega) (by omega)]
 refine (run_one n _ _ _ _ _ _ ⟨16,17,0,[]⟩ _ rfl (show (7:Int) < ((18:Nat):Int) by decide) (by omega) (do_jz _ _ _ _ _ 17 _)).trans ?_
 rw [show fu - 1 - 1 - 1 - 1 = fu - 4 by omega,show ran + 1 + 1 + 1 + 1 = ran + 4 by omega]
 rfl
theorem lp_round (k b n:Nat) (fu ran:Int) (i s:Nat) (hk:k < 9007199254740992) (hik:i < k) (hb:b < 9007199254740992) (hs:s < 9007199254740992) (hsb:s + b ≤ 9007199254740992) (hf:13 ≤ fu) :
  runM (n + 13) (lpH k b fu ran i s) = runM n (lpH k b (fu - 13) (ran + 13) (i + 1) (s + b)):=by
 rw [show n + 13 = n + 9 + 4 by omega,lp_head k b (n + 9) fu ran i s (by omega) hk (by omega),if_pos (decide_eq_true hik)]
 refine (run_one (n + 8) _ _ _ _ _ _ ⟨3,1,0,[]⟩ _ rfl (show (8:Int) < ((18:Nat):Int) by decide) (by omega) (do_load _ _ _ _ _ _ 1 (fl s) rfl (by decide))).trans ?_
 refine (run_one (n + 7) _ _ _ _ _ _ ⟨1,0,fl b,[]⟩ _ rfl (show (9:Int) < ((18:Nat):Int) by decide) (by omega) (do_num _ _ _ _ _ _ (fl b) (by simp))).trans ?_
 refine (run_one (n + 6) _ _ _ _ _ _ ⟨7,0,0,[]⟩ _ rfl (show (10:Int) < ((18:Nat):Int) by decide) (by omega) (do_add _ _ _ _ _ (fl s) (fl b))).trans ?_
 rw [add_fl s b hs hb hsb]
 refine (run_one (n + 5) _ _ _ _ _ _ ⟨4,1,0,[]⟩ _ rfl (show (11:Int) < ((18:Nat):Int) by decide) (by omega) (do_store _ _ _ _ _ _ _)).trans ?_
 refine (run_one (n + 4) _ _ _ _ _ _ ⟨3,0,0,[]⟩ _ rfl (show (12:Int) < ((18:Nat):Int) by decide) (by omega) (do_load _ _ _ _ _ _ 0 (fl i) rfl (by decide))).trans ?_
 refine (run_one (n + 3) _ _ _ _ _ _ ⟨1,0,4607182418800017408,[]⟩ _ rfl (show (13:Int) < ((18:Nat):Int) by decide) (by omega) (do_num _ _ _ _ _ _ 4607182418800017408 (by simp))).trans ?_
 refine (run_one (n + 2) _ _ _ _ _ _ ⟨7,0,0,[]⟩ _ rfl (show (14:Int) < ((18:Nat):Int) by decide) (by omega) (do_add _ _ _ _ _ (fl i) 4607182418800017408)).trans ?_
 rw [one_fl,add_fl i 1 (by omega) (by decide) (by omega)]
 refine (run_one (n + 1) _ _ _ _ _ _ ⟨4,0,0,[]⟩ _ rfl (show (15:Int) < ((18:Nat):Int) by decide) (by omega) (do_store _ _ _ _ _ _ _)).trans ?_
 refine (run_one n _ _ _ _ _ _ ⟨15,4,0,[]⟩ _ rfl (show (16:Int) < ((18:Nat):Int) by decide) (by omega) (do_jmp _ _ _ _ _ _ 4)).trans ?_
 rw [show fu - 4 - 1 - 1 - 1 - 1 - 1 - 1 - 1 - 1 - 1 = fu - 13 by omega,show ran + 4 + 1 + 1 + 1 + 1 + 1 + 1 + 1 + 1 + 1 = ran + 13 by omega]
 rfl
theorem runM_stop (n:Nat) (m:Mac) (h:m.state ≠ 0):runM n m = m:=by
 cases n with
 | zero=>rfl
 | succ n=>rw [runM,if_neg h]
theorem lp_end (k b n:Nat) (fu ran:Int) (s:Nat) (hk:k < 9007199254740992) (hf:5 ≤ fu) :
  runM (n + 5) (lpH k b fu ran k s) = { mS (lpI (fl k) (fl b)) 18 (fu - 5) (ran + 5) [] (numV (fl k) :: numV (fl s) :: List.replicate 62 zeroV) with state:=2 }:=by
 rw [show n + 5 = n + 1 + 4 by omega,lp_head k b (n + 1) fu ran k s hk hk (by omega),if_neg (by simp)]
 refine (run_one n _ _ _ _ _ _ ⟨0,0,0,[]⟩ _ rfl (show (17:Int) < ((18:Nat):Int) by decide) (by omega) (do_end _ _ _ _ _ _)).trans ?_
 rw [runM_stop _ _ (by show (2:Int) ≠ 0;decide),show fu - 4 - 1 = fu - 5 by omega,show ran + 4 + 1 = ran + 5 by omega]
 rfl
theorem lp_rounds (k b:Nat) (hk:k < 1024) (hb:b < 1024):∀ (j i n:Nat) (fu ran:Int),i + j = k → (13 * j:Nat) + 5 ≤ fu →
  runM (n + 13 * j + 5) (lpH k b fu ran i (i * b)) = { mS (lpI (fl k) (fl b)) 18 (fu - 13 * j - 5) (ran + 13 * j + 5) [] (numV (fl k) :: numV (fl (k * b)) :: List.replicate 62 zeroV) with state:=2 }
 | 0,i,n,fu,ran,hi,hf=>by
  obtain rfl:i = k:=by omega
  rw [show n + 13 * 0 + 5 = n + 5 by omega,lp_end i b n fu ran _ (by omega) (by omega),show fu - 13 * ((0:Nat):Int) - 5 = fu - 5 by omega,show ran + 13 * ((0:Nat):Int) + 5 = ran + 5 by omega]
 | j + 1,i,n,fu,ran,hi,hf=>by
  have h1:i * b ≤ 1024 * 1024:=Nat.mul_le_mul (by omega) (by omega)
  rw [show n + 13 * (j + 1) + 5 = n + 13 * j + 5 + 13 by omega,lp_round k b _ fu ran i _ (by omega) (by omega) (by omega) (by omega) (by omega) (by omega)]
  have e:i * b + b = (i + 1) * b:=by rw [Nat.succ_mul]
  rw [e,lp_rounds k b hk hb j (i + 1) n (fu - 13) (ran + 13) (by omega) (by omega)]
  rw [show fu - 13 - 13 * (j:Int) - 5 = fu - 13 * ((j + 1:Nat):Int) - 5 by omega,show ran + 13 + 13 * (j:Int) + 5 = ran + 13 * ((j + 1:Nat):Int) + 5 by omega]
theorem lp_all (k b:Nat) (hk:k < 1024) (hb:b < 1024):runM 20001 (newM (lpI (fl k) (fl b)) 20000) = { mS (lpI (fl k) (fl b)) 18 (20000 - 4 - 13 * k - 5) (4 + 13 * k + 5) [] (numV (fl k) :: numV (fl (k * b)) :: List.replicate 62 zeroV) with state:=2 }:=by
 rw [show 20001 = (20001 - 9 - 13 * k) + 13 * k + 5 + 4 by omega,lp_begin k b _ 20000 (by decide)]
 have:=lp_rounds k b hk hb k 0 (20001 - 9 - 13 * k) (20000 - 4) 4 (by omega) (by omega)
 rw [Nat.zero_mul] at this
 exact this
theorem lp_mach (k b:Nat) (hk:k < 1024) (hb:b < 1024):(machC (lpI (fl k) (fl b))).map (·.1) = lpI (fl k) (fl b):=by
 have e:(machC (lpI (fl k) (fl b))).map (·.1) = (lpI (fl k) (fl b)).map fun i => { i with num:=cf i.num }:=by
  unfold machC
  rw [List.map_map]
  rfl
 rw [e]
 unfold lpI
 simp only [List.map_cons,List.map_nil,cf_fl k (by omega),cf_fl b (by omega)]
 have h0:cf 0 = 0:=by decide +kernel
 have h1:cf 4607182418800017408 = 4607182418800017408:=by decide +kernel
 rw [h0,h1]
end Go.Proofs.YtmfpmandkhiknaaGreatDoor.mkr
namespace Go.Proofs.YtmfpmandkhiknaaGreatDoor.mkr
open Go Go.RowKit
open heap vmm
open lex (run_store_float add0)
set_option maxRecDepth 100000
attribute [local go_sem] run_store_float
theorem andM (m:Nat) (hm:m < 1024) (c:Int):∃ q:Nat,q ≤ m ∧ bits .and .i64 c (m:Int) = (q:Int):=by
 have h:(BitVec.ofInt 64 c &&& BitVec.ofInt 64 (m:Int)).toNat ≤ (BitVec.ofInt 64 (m:Int)).toNat:=by
  rw [BitVec.toNat_and];exact Nat.and_le_right
 have h2:(BitVec.ofInt 64 (m:Int)).toNat = m:=by
  rw [BitVec.toNat_ofInt];omega
 rw [h2] at h
 refine ⟨(BitVec.ofInt 64 c &&& BitVec.ofInt 64 (m:Int)).toNat,h,?_⟩
 show IntKind.i64.wrap ((BitVec.ofInt 64 c &&& BitVec.ofInt 64 (m:Int)).toNat:Int) = _
 generalize (BitVec.ofInt 64 c &&& BitVec.ofInt 64 (m:Int)).toNat = q at *
 exact IntWalk.i64_in _ (by omega)
theorem crow_mono {W:World} {b b':Nat} {v:Value} {c:List Ins} (h:CRow W b' v c) (hb:b ≤ b'):CRow W b v c:=by
 obtain ⟨hl,h1 | ⟨g,cp,cur,hv,h2,h3⟩⟩:=h
 ·exact ⟨hl,.inl h1⟩
 ·exact ⟨hl,.inr ⟨g,cp,cur,hv,Nat.le_trans hb h2,h3⟩⟩
theorem num_is {v:Val} {r:Nat} (h:NumOk v r) (n:Nat) (hn:n ≤ 9007199254740992) (hv:v.num = flt.fl n):r = flt.fl n:=by
 have h1:=h.1
 rw [hv] at h1
 cases hb:flt.nanB r with
 | false=>rw [cf_ok hb] at h1;exact h1
 | true =>
  rw [cf_nan hb] at h1
  have h2:flt.nanB (flt.fl n) = false:=by
   unfold flt.nanB
   rw [flt.read_fin _ (flt.fin_fl n hn)]
   rfl
  rw [← h1,nan_NANB] at h2
  cases h2
theorem eq_fl (n:Nat) (hn:n ≤ 9007199254740992):flt.eqB (flt.fl n) (flt.fl n) = true:=by
 rw [flt.eqB_fin _ _ (flt.fin_fl n hn) (flt.fin_fl n hn)]
 exact decide_eq_true rfl
set_option maxHeartbeats 4000000 in
theorem loops_any (z1 z2:Int) (w:World):Calls Tryz.prog 6 #[.int .i64 z1,.int .i64 z2] w fun e w'=>e = .returned (.bool true) ∧ Below w.heap.size w w':=by
 obtain ⟨k,hk,hke⟩:=andM 255 (by omega) z1
 obtain ⟨b,hb0,hbe⟩:=andM 1023 (by omega) z2
 have hk1:bits .and .i64 z1 255 = (k:Int):=hke
 have hb1:bits .and .i64 z2 1023 = (b:Int):=hbe
 clear hke hbe
 have hkb:k * b ≤ 255 * 1023:=Nat.mul_le_mul hk hb0
 have HAW:=Lib.hid (fun W=>awake_any W)
 have HD1:=Lib.hid (fun W=>num.Decimal_nat k (by omega) W)
 have HD2:=Lib.hid (fun W=>num.Decimal_nat b (by omega) W)
 have HCO:Hid (∀ (u:ByteArray) (W:World),u.data.toList = lpS (num.decL k) (num.decL b) → Calls Tryz.prog 13 #[.string u] W fun e w'=>∃ v,e = .returned v ∧ CRow w' W.heap.size v (lpI (flt.fl k) (flt.fl b)) ∧ Below W.heap.size W w'):=fun u W hu=>(Code_any u W (by
   have e:u.size = u.data.toList.length:=by rw [Array.length_toList];rfl
   have l1:=flt.decL_len 19 k (by omega) (by omega)
   have l2:=flt.decL_len 19 b (by omega) (by omega)
   rw [e,hu]
   unfold lpS lpA lpB lpC
   simp only [List.length_append,List.length_cons,List.length_nil]
   omega)).mono fun e w' ⟨v,he,hbl,hr⟩=>by
  rw [hu,code_S k b (by omega) (by omega)] at hr
  exact ⟨v,he,hr,hbl⟩
 have HOKC:=Lib.hid (codeS_ok (code_S k b (by omega) (by omega)))
 have HNE:=Lib.hid (fun v W h hb=>new_o w.heap.size v (lpI (flt.fl k) (flt.fl b)) 20000 W h HOKC.out (by decide) hb)
 have HRU:=Lib.hid (fun p cv sv W h=>run_o w.heap.size p (newM ((machC (lpI (flt.fl k) (flt.fl b))).map (·.1)) ((20000:Nat):Int)) cv sv (machC (lpI (flt.fl k) (flt.fl b))) 20001 W h (by show (20000:Int) < 20001;decide))
 rw [lp_mach k b (by omega) (by omega)] at HNE HRU
 have HA:=lp_all k b (by omega) (by omega)
 have eA:newM (lpI (flt.fl k) (flt.fl b)) ((20000:Nat):Int) = newM (lpI (flt.fl k) (flt.fl b)) 20000:=rfl
 rw [eA,HA] at HRU
 rw [eA] at HNE
 clear HA eA
 obtain ⟨mF,hmF⟩:∃ m:Mac,{ mS (lpI (flt.fl k) (flt.fl b)) 18 (20000 - 4 - 13 * k - 5) (4 + 13 * k + 5) [] (numV (flt.fl k) :: numV (flt.fl (k * b)) :: List.replicate 62 zeroV) with state:=2 } = m:=⟨_,rfl⟩
 have f1:mF.state = 2:=by rw [← hmF]
 have f2:mF.ran = 4 + 13 * (k:Int) + 5:=by rw [← hmF];rfl
 have f3:(mF.vars.getD 0 zeroV).num = flt.fl k:=by rw [← hmF];rfl
 have f4:(mF.vars.getD 1 zeroV).num = flt.fl (k * b):=by rw [← hmF];rfl
 rw [hmF,f1] at HRU
 have HVA:=Lib.hid (fun p cv sv W (h:MO w.heap.size W p mF cv sv (machC (lpI (flt.fl k) (flt.fl b))))=>Vars_at w.heap.size p mF cv sv (machC (lpI (flt.fl k) (flt.fl b))) W h)
 have HRN:=Lib.hid (fun p cv sv W (h:MO w.heap.size W p mF cv sv (machC (lpI (flt.fl k) (flt.fl b))))=>Ran_any p mF cv sv (machC (lpI (flt.fl k) (flt.fl b))) W h.at')
 rw [f2] at HRN
 have HF:=Lib.hid (And.intro f3 f4)
 clear hmF f1 f2 f3 f4 HOKC
 have l1:=flt.decL_len 19 k (by omega) (by omega)
 have l2:=flt.decL_len 19 b (by omega) (by omega)
 have HLS:=Lib.hid (fun _:Unit=>And.intro (rfl:(num.decS k).data.toList = num.decL k) (rfl:(num.decS b).data.toList = num.decL b))
 have hs1:(num.decS k).size ≤ 20:=by show (num.decL k).toArray.size ≤ 20;simp;omega
 have hs2:(num.decS b).size ≤ 20:=by show (num.decL b).toArray.size ≤ 20;simp;omega
 have HCP:Hid (∀ W,Calls Tryz.prog 13 #[.string ((((⟨lpA.toArray⟩:ByteArray) ++ num.decS k) ++ ⟨lpB.toArray⟩) ++ num.decS b ++ ⟨lpC.toArray⟩)] W fun e w'=>∃ v,e = .returned v ∧ CRow w' W.heap.size v (lpI (flt.fl k) (flt.fl b)) ∧ Below W.heap.size W w'):=fun W=>HCO.out _ W (by
  simp only [ByteArray.data_append,Array.toList_append,(HLS.out ()).1,(HLS.out ()).2]
  unfold lpS
  simp only [List.append_assoc]
  rw [show (num.decS k).data.toList = num.decL k from rfl,show (num.decS b).data.toList = num.decL b from rfl])
 clear HCO HLS l1 l2
 generalize machC (lpI (flt.fl k) (flt.fl b)) = C at *
 generalize newM (lpI (flt.fl k) (flt.fl b)) 20000 = m0 at *
 generalize lpI (flt.fl k) (flt.fl b) = I0 at *
 unfold lpA lpB lpC at HCP
 generalize num.decS k = D1 at *
 generalize num.decS b = D2 at *
 have hmul:wrap64 ((k:Int) * (b:Int)) = ((k * b:Nat):Int):=by
  rw [IntWalk.wrap64_in _ (by rw [← Int.natCast_mul];omega)];exact (Int.natCast_mul k b).symm
 have hfo1:floatOfInt .f64 (k:Int) = flt.fl k:=flt.floatOfInt_nat k
 have hfo2:floatOfInt .f64 ((k * b:Nat):Int) = flt.fl (k * b):=flt.floatOfInt_nat (k * b)
 have hq1:=flt.eqR (eq_fl k (by omega))
 have hq2:=flt.eqR (eq_fl (k * b) (by omega))
 have HN1:=Lib.hid (fun v r (h:NumOk v r) (hv:v.num = flt.fl k)=>num_is h k (by omega) hv)
 have HN2:=Lib.hid (fun v r (h:NumOk v r) (hv:v.num = flt.fl (k * b))=>num_is h (k * b) (by omega) hv)
 generalize flt.fl k = F1 at *
 generalize flt.fl (k * b) = F2 at *
 generalize k * b = kb at *
 go_enter Tryz.func6,Tryz.ntmps6
 go_upto_region 4 with (go_at_call 11;refine (HAW.out _).mono ?_;rintro e w2 ⟨rfl,hb⟩;have HB2:=Lib.hid hb;clear hb)
 go_upto_region 5 with (first | (go_at_call 23;first | ((with_reducible refine (HD1.out _).mono ?_);rintro e w3 ⟨rfl,hb⟩;have HB3:=Lib.hid (HB2.out.trans (hb.mono HB2.out.size));clear hb) | ((with_reducible refine (HD2.out _).mono ?_);rintro e w4 ⟨rfl,hb⟩;have HB4:=Lib.hid (HB3.out.trans (hb.mono HB3.out.size));clear hb)) | (go_at_call 13;refine (HCP.out _).mono ?_;rintro e w6 ⟨v6,rfl,hr,hb⟩;have HR6:=Lib.hid (crow_mono hr HB4.out.size);have HB6:=Lib.hid (HB4.out.trans (hb.mono HB4.out.size));clear hr hb) | (go_at_call 12;refine (HNE.out _ _ HR6.out HB6.out.size).mono ?_;rintro e w7 ⟨p,cv,rfl,hmo,-,-,hb⟩;have HM7:=Lib.hid hmo;have HB7:=Lib.hid (HB6.out.trans (hb.mono HB6.out.size));clear hmo hb))
 clear hs1 hs2 HCP HNE HD1 HD2 HAW
 go_upto_region 6 with (go_at_call 15;refine (HRU.out _ _ _ _ HM7.out).mono ?_;rintro e w8 ⟨rfl,⟨sv8,hmo,-⟩,hb⟩;have HM9:=Lib.hid (hmo.below ((Below.refl _ _).alloc (Nat.le_refl _) (cO mF.call)));have HB9:=Lib.hid ((HB7.out.trans hb).alloc (HB7.out.trans hb).size (cO mF.call));clear hmo hb)
 change Code.wp _ _ _ _ (w8.alloc (cO mF.call))
 generalize w8.alloc (cO mF.call) = w9 at *
 go_upto_region 7 with (go_at_call 19;refine (HVA.out _ _ _ _ HM9.out).mono ?_;rintro e w10 ⟨g,cg,rfl,hcs,hb⟩;obtain ⟨r0,hr0,y0,y1,y2⟩:=hcs 0 (by decide);obtain ⟨r1,hr1,y3,y4,y5⟩:=hcs 1 (by decide);have HMA:=Lib.hid (HM9.out.below hb);have HB10:=Lib.hid (HB9.out.trans (hb.mono HB9.out.size));clear hb hcs)
 obtain rfl:=HN1.out _ _ hr0 HF.out.1
 obtain rfl:=HN2.out _ _ hr1 HF.out.2
 have y2':w10.cell? ⟨g,2,none⟩ = some (.float .f64 r0):=y2
 have y5':w10.cell? ⟨g,5,none⟩ = some (.float .f64 r1):=y5
 clear hr0 hr1 y0 y1 y3 y4 y2 y5
 have hk255:(k:Int) ≤ 255:=by omega
 have hran:(4 + 13 * (k:Int) + 5 == 4 + 13 * (k:Int) + 4 + 1) = true:=by rw [beq_iff_eq];omega
 go_wp2_with (first | (go_at_call 14;refine (Num_any _ _).mono ?_;rintro e w' ⟨rfl,rfl⟩) | (go_at_call 17;refine (HRN.out _ _ _ _ HMA.out).mono ?_;rintro e w' ⟨rfl,rfl⟩))
 go_ret
 exact ⟨rfl,HB10.out⟩
end Go.Proofs.YtmfpmandkhiknaaGreatDoor.mkr
