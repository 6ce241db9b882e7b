/-
  Proved: what package archive reads of an image without layers. Conditions: as each theorem says.
  Proved: an image's stream, read and written over a field (plain). Conditions: as each theorem says. No program is in sight.
-/
import Derived.Test.YtifhnpkapgaboaaGreatPj24
import Derived.Test.YtifhnpkapgaboaaGreatPj22
set_option linter.unusedVariables false
set_option linter.unusedSimpArgs false
namespace Go.Proofs.YtifhnpkapgaboaaGreat.arch
open Go.RowKit
open heap
open maps (MapS)
open path (sv str_size)
set_option maxRecDepth 100000
def mkI:Nm := [79,82,73]
def exI:Nm := [79,82,73,0,120]
def GNil:Unit → World → Nat → Value → Prop:=fun _ _ _ v=>v = .slice none 0 0
theorem GNil.keeps:Keeps GNil:=⟨fun h=>⟨none,0,0,h⟩,fun h _ _=>h,fun h _=>h⟩
theorem decodeI_ex (q:Nat) (w:World) (h:w.heap[q]? = some (RdO exI 0)):Calls Tryz.prog 41 #[PP q] w (ImP GNil q exI (.ok ((),4)) w):=by
 have hl:=blk_lt h
 have h1:=blk_old h (.cells #[.slice none 0 0] 24 (0,0))
 have HM:=Lib.hid (mark_any q exI mkI 0 _ h1 (Nat.zero_le _) (by decide) (by decide))
 have e1:markD exI mkI 0 = .ok ((),3):=rfl
 rw [e1] at HM
 have HI:=Lib.hid (blk_new w (.cells #[.slice none 0 0] 24 (0,0)))
 have HT:Hid (Turned [q] w (w.alloc (.cells #[.slice none 0 0] 24 (0,0)))):=(Turned.refl _ _).alloc _
 clear e1 h1 h
 go_enter Tryz.func41,Tryz.ntmps41
 go_wp2_with fail
 change Calls _ _ #[_,sv mkI] _ _
 refine HM.out.mono ?_;rintro e w2 ⟨rfl,hq2,ht2⟩
 have HI2:=Lib.hid (ht2.kept HI.out (by simp;omega))
 have HT2:=Lib.hid (HT.out.trans ht2)
 have c1:=blk_cell hq2 1
 have ql:=blk_lt hq2
 simp only [List.getElem?_toArray,List.getElem?_cons_zero,List.getElem?_cons_succ] at c1
 have HN:=Lib.hid (number_any q exI 3 1 w2 hq2 (by decide) (by decide) (.inl rfl))
 have e2:numD exI 3 1 = .ok (0,4):=rfl
 rw [e2] at HN
 clear ht2 HM HI HT e2 hq2
 go_wp2_with fail
 refine HN.out.mono ?_;rintro e w3 ⟨rfl,hq3,ht3⟩
 have HI3:=Lib.hid (ht3.kept HI2.out (by simp;omega))
 have HT3:=Lib.hid (HT2.out.trans ht3)
 have HQ:=Lib.hid hq3
 clear ht3 hq3 HN HI2 HT2 c1 ql
 go_wp2_with fail
 refine (fail_no _ _ _).mono ?_;rintro e w' ⟨rfl,rfl⟩
 go_wp2_with fail
 refine (Ground_nil w3).mono ?_;rintro e w4 ⟨rfl,-,-,-,hb⟩
 have HI4:=Lib.hid (blk_below HI3.out hb)
 have HQ4:=Lib.hid (blk_below HQ.out hb)
 have HT4:=Lib.hid (HT3.out.trans (Turned.of_below hb))
 clear hb HI3 HQ HT3
 go_wp2_with fail
 go_loopw [20] (fun v20 wr=>wr = w4 ∧ v20 = .int .i64 0) (fun _ _=>0)
 case atStart=>exact ⟨rfl,rfl⟩
 case round =>
  obtain ⟨rfl,rfl⟩:=hrel
  have c2:=blk_cell HI4.out 0
  have f2:=blk_free HI4.out 0
  have l2:=blk_lt HI4.out
  simp only [List.getElem?_toArray,List.getElem?_cons_zero] at c2
  go_wp2_with fail
  have k2:=blk_cell (blk_set HI4.out 0 (.slice none 0 0)) 0
  simp only [List.setIfInBounds_toArray,List.set_cons_zero,List.getElem?_toArray,List.getElem?_cons_zero] at k2
  refine bodyPost_ret (v:=.agg #[.slice none 0 0]) (by simp [results,Tryz.results41,go_sem,k2]) rfl ?_
  exact ⟨_,rfl,rfl,(blk_other (by omega) 0 _).trans HQ4.out,tur_set HT4.out (Nat.le_refl _) _⟩
theorem DecodeImage_ex (w:World):Calls Tryz.prog 13 #[sv exI] w fun e w'=>e = .returned (.tuple #[.agg #[.slice none 0 0],.int .i64 4,.int .i64 1310]) ∧ Below w.heap.size w w':=by
 have HR:=Lib.hid (readI_any GNil GNil.keeps exI (.ok ((),4)) (w.alloc (.cells #[.slice none 0 0] 24 (0,0))) (by decide) (fun q W h hl=>decodeI_ex q W h))
 have hR:readG exI (.ok ((),4)) = (.error (4,1310):Except Flt Unit):=rfl
 rw [hR] at HR
 clear hR
 have hmf:∀ (fn:Fn) (first cap:Array Value) (w:World),(Instr.makeFunc fn first cap).run Tryz.prog w = .ok (.func fn first cap) w:=fun _ _ _ _=>rfl
 have HN:=Lib.hid (blk_new w (.cells #[.slice none 0 0] 24 (0,0)))
 have HB:Hid (Below w.heap.size w (w.alloc (.cells #[.slice none 0 0] 24 (0,0)))):=(Below.refl _ _).alloc (Nat.le_refl _) _
 go_enter Tryz.func13,Tryz.ntmps13
 go_wp2_with fail
 refine (HR.out).mono ?_
 rintro e w2 ⟨rfl,hb⟩
 have HN2:=blk_below HN.out hb
 have HB2:=Lib.hid (HB.out.trans (hb.mono (by simp)))
 clear hb HB HR
 have c2:=blk_cell HN2 0
 have f2:=blk_free HN2 0
 have l2:=blk_lt HN2
 simp only [List.getElem?_toArray,List.getElem?_cons_zero] at c2
 go_wp2_with fail
 have k2:=blk_cell (blk_set HN2 0 (.slice none 0 0)) 0
 simp only [List.setIfInBounds_toArray,List.set_cons_zero,List.getElem?_toArray,List.getElem?_cons_zero] at k2
 refine bodyPost_ret (v:=.tuple #[.agg #[.slice none 0 0],.int .i64 4,.int .i64 1310]) (by simp [results,Tryz.results13,go_sem,k2]) rfl ?_
 exact ⟨rfl,HB2.out.setCell (by simp) _⟩
set_option maxHeartbeats 1000000 in
theorem EncodeImage_ex (w:World):Calls Tryz.prog 8 #[.agg #[.slice none 0 0]] w fun e w'=>e = .returned (.tuple #[sv [79,82,73,0],.int .i64 0,.int .i64 0]) ∧ Below w.heap.size w w':=by
 have HI:=Lib.hid (blk_new w (.cells #[.slice none 0 0] 24 (0,0)))
 have HB:Hid (Below w.heap.size w (w.alloc (.cells #[.slice none 0 0] 24 (0,0)))):=(Below.refl _ _).alloc (Nat.le_refl _) _
 go_enter Tryz.func8,Tryz.ntmps8
 go_wp2_with fail
 change Code.wp _ _ _ _ (w.alloc (.cells #[.slice none 0 0] 24 (0,0)))
 generalize w.alloc (.cells #[.slice none 0 0] 24 (0,0)) = w1 at *
 go_loopw [23] (fun v wr=>wr = w1 ∧ v = .int .i64 0) (fun _ _=>0)
 case atStart=>exact ⟨rfl,rfl⟩
 case round =>
  obtain ⟨rfl,rfl⟩:=hrel
  go_wp2_with fail
  refine (Ground_nil wr).mono ?_;rintro e w4 ⟨rfl,-,-,-,hb⟩
  have HI2:=Lib.hid (blk_below HI.out hb)
  have HB2:=Lib.hid (HB.out.trans (hb.mono HB.out.size))
  clear hb
  have c0:=blk_cell HI2.out 0
  have l0:=blk_lt HI2.out
  simp only [List.getElem?_toArray,List.getElem?_cons_zero] at c0
  go_wp2_with fail
  refine (le1_any 0 w4 (by decide)).mono ?_;rintro e w5 ⟨rfl,hb⟩
  have HI3:=Lib.hid (blk_below HI2.out hb)
  have HB5:=Lib.hid (HB2.out.trans (hb.mono HB2.out.size))
  clear hb HB2 c0 l0
  have c0:=blk_cell HI3.out 0
  have l0:=blk_lt HI3.out
  simp only [List.getElem?_toArray,List.getElem?_cons_zero] at c0
  have hcat:(⟨#[79,82,73]⟩:ByteArray) ++ ⟨([UInt8.ofNat 0]:Nm).toArray⟩ = ⟨([79,82,73,0]:Nm).toArray⟩:=by rfl
  have hsz:(⟨([79,82,73,0]:Nm).toArray⟩:ByteArray).size = 4:=by rfl
  go_wp2_with fail
  go_loopw [11,53] (fun s v wr2=>wr2 = w5 ∧ v = .int .i64 0 ∧ s = sv [79,82,73,0]) (fun _ _ _=>0)
  case atStart=>exact ⟨rfl,rfl,rfl⟩
  case round =>
   obtain ⟨rfl,rfl,rfl⟩:=hrel
   go_wp2_with fail
   refine bodyPost_ret (v:=.tuple #[sv [79,82,73,0],.int .i64 0,.int .i64 0]) (by simp [results,Tryz.results8,go_sem]) rfl ?_
   exact ⟨rfl,HB5.out⟩
end Go.Proofs.YtifhnpkapgaboaaGreat.arch
namespace Go.Proofs.YtifhnpkapgaboaaGreat.arch
open Go Go.RowKit
open path (cleanB belowB)
open fld (Fld applyF Sk apply_sk)
def hd (e:Ent):Ent:=⟨e.path,e.kind,0,[]⟩
def entG (s:Nm) (k:Int) (a:Nat) (es:List Ent) (F:Fld):Except Flt ((Ent × Fld) × Nat):=
 if s.length < a + 1 then .error (s.length,1300)
 else if (s.getD a 0).toNat = 0 ∨ 140 < (s.getD a 0).toNat then .error (a,1303)
 else if s.length < a + 1 + (s.getD a 0).toNat then .error (s.length,1300)
 else if pathE es ⟨sub s (a + 1) (s.getD a 0).toNat,k,0,[]⟩ ≠ 0 then .error (a,pathE es ⟨sub s (a + 1) (s.getD a 0).toNat,k,0,[]⟩)
 else match applyF F ⟨sub s (a + 1) (s.getD a 0).toNat,k,0,[]⟩ with
 | none=>.error (a,1305)
 | some F' =>
  if s.length < a + 1 + (s.getD a 0).toNat + 2 then .error (s.length,1300)
  else if modeB k (num2 s (a + 1 + (s.getD a 0).toNat)) = false then .error (a + 1 + (s.getD a 0).toNat,1306)
  else if s.length < a + 1 + (s.getD a 0).toNat + 4 then .error (s.length,1300)
  else if lenB k (num2 s (a + 1 + (s.getD a 0).toNat + 2)) = false then .error (a + 1 + (s.getD a 0).toNat + 2,1307)
  else if s.length < a + 1 + (s.getD a 0).toNat + 4 + num2 s (a + 1 + (s.getD a 0).toNat + 2) then .error (s.length,1300)
  else if k = 3 ∧ (0:UInt8) ∈ sub s (a + 1 + (s.getD a 0).toNat + 4) (num2 s (a + 1 + (s.getD a 0).toNat + 2)) then .error (a + 1 + (s.getD a 0).toNat + 4,1308)
  else .ok ((⟨sub s (a + 1) (s.getD a 0).toNat,k,num2 s (a + 1 + (s.getD a 0).toNat),sub s (a + 1 + (s.getD a 0).toNat + 4) (num2 s (a + 1 + (s.getD a 0).toNat + 2))⟩,F'),a + 1 + (s.getD a 0).toNat + 4 + num2 s (a + 1 + (s.getD a 0).toNat + 2))
def layG (s:Nm):Nat → Nat → List Ent → Fld → Except Flt ((List Ent × Fld) × Nat)
 | 0,_,_,_=>.error (0,0)
 | f + 1,a,es,F =>
  if s.length < a + 1 then .error (s.length,1300)
  else if (s.getD a 0).toNat = 0 then (if 128 < F.nodes.length then .error (a,1309) else .ok ((es,F),a + 1))
  else if 5 < (s.getD a 0).toNat then .error (a,1302)
  else if 256 ≤ es.length then .error (a,1309)
  else match entG s (s.getD a 0).toNat (a + 1) es F with
   | .error p=>.error p
   | .ok ((e,F'),b)=>layG s f b (es ++ [e]) F'
def layerG (s:Nm) (a:Nat) (F:Fld):Except Flt ((List Ent × Fld) × Nat):=match markD s mkL a with
 | .error p=>.error p
 | .ok (_,b)=>layG s (s.length + 1) b [] F
def laysG (s:Nm):Nat → Nat → List (List Ent) → Fld → Except Flt (List (List Ent) × Nat)
 | 0,a,ls,_=>.ok (ls,a)
 | m + 1,a,ls,F=>match layerG s a F with
  | .error p=>.error p
  | .ok ((es,F'),b)=>laysG s m b (ls ++ [es]) F'
def F0:Fld:=⟨[],[]⟩
def imgG (s:Nm):Except Flt (List (List Ent) × Nat):=match markD s mkI 0 with
 | .error p=>.error p
 | .ok (_,a)=>match numD s a 1 with
  | .error p=>.error p
  | .ok (m,b)=>if 12 < m then .error (a,1309) else laysG s m b [] F0
def decI (s:Nm):Except Flt (List (List Ent)):=readG s (imgG s)
def maysI:List (List Ent) → Nat → Option (Int × Int)
 | [],_=>none
 | es :: r,n=>if (formL es).2 ≠ 0 then some (n + (formL es).1,(formL es).2) else maysI r (n + es.length)
def appsL:Fld → List Ent → Nat → Except (Int × Int) (Fld × Nat)
 | F,[],t=>.ok (F,t)
 | F,e :: r,t=>match applyF F e with
  | none=>.error (t,1305)
  | some F'=>appsL F' r (t + 1)
def appsI:Fld → List (List Ent) → Nat → Except (Int × Int) Unit
 | _,[],_=>.ok ()
 | F,es :: r,t=>match appsL F es t with
  | .error p=>.error p
  | .ok (F',t')=>if 128 < F'.nodes.length then .error ((t':Int) - 1,1309) else appsI F' r t'
def outI (ls:List (List Ent)):Nm:=mkI ++ ([UInt8.ofNat ls.length] ++ (ls.map streamL).flatten)
def encI (ls:List (List Ent)):Nm × Int × Int:=
 if 12 < ls.length then ([],0,1309)
 else match maysI ls 0 with
 | some p=>([],p.1,p.2)
 | none=>match appsI F0 ls 0 with
  | .error p=>([],p.1,p.2)
  | .ok _=>if 65536 < (outI ls).length then ([],0,1311) else (outI ls,0,0)
def headsF:Fld → List Ent → Option Fld
 | F,[]=>some F
 | F,e :: r=>match applyF F (hd e) with
  | none=>none
  | some F'=>headsF F' r
theorem entG_to {s:Nm} {k:Int} {a b:Nat} {es:List Ent} {F F':Fld} {e:Ent} (h:entG s k a es F = .ok ((e,F'),b)):entD s k a es = .ok (e,b) ∧ applyF F (hd e) = some F' ∧ e.kind = k:=by
 unfold entG at h
 unfold entD
 generalize (s.getD a 0).toNat = n at h ⊢
 by_cases h1:s.length < a + 1
 ·rw [if_pos h1] at h;cases h
 rw [if_neg h1] at h ⊢
 by_cases h2:n = 0 ∨ 140 < n
 ·rw [if_pos h2] at h;cases h
 rw [if_neg h2] at h ⊢
 by_cases h3:s.length < a + 1 + n
 ·rw [if_pos h3] at h;cases h
 rw [if_neg h3] at h ⊢
 by_cases h4:pathE es ⟨sub s (a + 1) n,k,0,[]⟩ ≠ 0
 ·rw [if_pos h4] at h;cases h
 rw [if_neg h4] at h ⊢
 cases hap:applyF F ⟨sub s (a + 1) n,k,0,[]⟩ with
 | none=>rw [hap] at h;cases h
 | some F1 =>
 rw [hap] at h
 simp only at h
 by_cases h5:s.length < a + 1 + n + 2
 ·rw [if_pos h5] at h;cases h
 rw [if_neg h5] at h ⊢
 by_cases h6:modeB k (num2 s (a + 1 + n)) = false
 ·rw [if_pos h6] at h;cases h
 rw [if_neg h6] at h ⊢
 by_cases h7:s.length < a + 1 + n + 4
 ·rw [if_pos h7] at h;cases h
 rw [if_neg h7] at h ⊢
 by_cases h8:lenB k (num2 s (a + 1 + n + 2)) = false
 ·rw [if_pos h8] at h;cases h
 rw [if_neg h8] at h ⊢
 by_cases h9:s.length < a + 1 + n + 4 + num2 s (a + 1 + n + 2)
 ·rw [if_pos h9] at h;cases h
 rw [if_neg h9] at h ⊢
 by_cases h10:k = 3 ∧ (0:UInt8) ∈ sub s (a + 1 + n + 4) (num2 s (a + 1 + n + 2))
 ·rw [if_pos h10] at h;cases h
 rw [if_neg h10] at h ⊢
 cases h
 exact ⟨rfl,hap,rfl⟩
theorem entG_le {s:Nm} {k:Int} {a b:Nat} {es:List Ent} {F F':Fld} {e:Ent} (h:entG s k a es F = .ok ((e,F'),b)):a < b ∧ b ≤ s.length ∧ e.path.length ≤ 140:=entD_le (entG_to h).1
theorem drop_one {s:Nm} {a:Nat} (h:a < s.length):s.drop a = s.getD a 0 :: s.drop (a + 1):=by
 rw [List.drop_eq_getElem_cons h,List.getD_eq_getElem?_getD,List.getElem?_eq_getElem h]
 rfl
theorem drop_sub {s:Nm} (a n:Nat):s.drop a = sub s a n ++ s.drop (a + n):=by
 unfold sub
 rw [← List.drop_drop,List.take_append_drop]
theorem le2_num (s:Nm) (a:Nat):le2 (num2 s a) = [s.getD a 0,s.getD (a + 1) 0]:=by
 unfold le2 num2
 have h1:=(s.getD a 0).toNat_lt
 have h2:=(s.getD (a + 1) 0).toNat_lt
 have e1:UInt8.ofNat ((s.getD a 0).toNat + 256 * (s.getD (a + 1) 0).toNat) = s.getD a 0:=by
  apply UInt8.toNat_inj.1
  rw [UInt8.toNat_ofNat']
  omega
 have e2:UInt8.ofNat (((s.getD a 0).toNat + 256 * (s.getD (a + 1) 0).toNat) / 256) = s.getD (a + 1) 0:=by
  apply UInt8.toNat_inj.1
  rw [UInt8.toNat_ofNat']
  omega
 rw [e1,e2]
def tailS (e:Ent):Nm:=UInt8.ofNat e.path.length :: (e.path ++ (le2 e.mode.toNat ++ (le2 e.data.length ++ e.data)))
theorem ent_tail (e:Ent):entS e = UInt8.ofNat e.kind.toNat :: tailS e:=rfl
theorem sub_len {s:Nm} {a n:Nat} (h:a + n ≤ s.length):(sub s a n).length = n:=by unfold sub;rw [List.length_take,List.length_drop];omega
theorem ent_bytes {s:Nm} {k:Int} {a b:Nat} {es:List Ent} {e:Ent} (h:entD s k a es = .ok (e,b)):e.kind = k ∧ s.drop a = tailS e ++ s.drop b ∧ a < b ∧ b ≤ s.length ∧ (1 ≤ k → k ≤ 5 → entF es e = 0):=by
 unfold entD at h
 obtain ⟨n,hn⟩:∃ n,(s.getD a 0).toNat = n:=⟨_,rfl⟩
 rw [hn] at h
 by_cases h1:s.length < a + 1
 ·rw [if_pos h1] at h;cases h
 rw [if_neg h1] at h
 by_cases h2:n = 0 ∨ 140 < n
 ·rw [if_pos h2] at h;cases h
 rw [if_neg h2] at h
 by_cases h3:s.length < a + 1 + n
 ·rw [if_pos h3] at h;cases h
 rw [if_neg h3] at h
 by_cases h4:pathE es ⟨sub s (a + 1) n,k,0,[]⟩ ≠ 0
 ·rw [if_pos h4] at h;cases h
 rw [if_neg h4] at h
 by_cases h5:s.length < a + 1 + n + 2
 ·rw [if_pos h5] at h;cases h
 rw [if_neg h5] at h
 by_cases h6:modeB k (num2 s (a + 1 + n)) = false
 ·rw [if_pos h6] at h;cases h
 rw [if_neg h6] at h
 by_cases h7:s.length < a + 1 + n + 4
 ·rw [if_pos h7] at h;cases h
 rw [if_neg h7] at h
 by_cases h8:lenB k (num2 s (a + 1 + n + 2)) = false
 ·rw [if_pos h8] at h;cases h
 rw [if_neg h8] at h
 by_cases h9:s.length < a + 1 + n + 4 + num2 s (a + 1 + n + 2)
 ·rw [if_pos h9] at h;cases h
 rw [if_neg h9] at h
 by_cases h10:k = 3 ∧ (0:UInt8) ∈ sub s (a + 1 + n + 4) (num2 s (a + 1 + n + 2))
 ·rw [if_pos h10] at h;cases h
 rw [if_neg h10] at h
 cases h
 have hd:=le2_num s (a + 1 + n + 2)
 have hm:=le2_num s (a + 1 + n)
 have hl:=sub_len (s:=s) (a:=a + 1 + n + 4) (n:=num2 s (a + 1 + n + 2)) (by omega)
 have hp:=sub_len (s:=s) (a:=a + 1) (n:=n) (by omega)
 refine ⟨rfl,?_,by omega,by omega,fun hk1 hk5 => ?_⟩
 ·unfold tailS
  show _ = (UInt8.ofNat (sub s (a + 1) n).length :: (sub s (a + 1) n ++ (le2 (num2 s (a + 1 + n):Int).toNat ++ (le2 (sub s (a + 1 + n + 4) (num2 s (a + 1 + n + 2))).length ++ sub s (a + 1 + n + 4) (num2 s (a + 1 + n + 2)))))) ++ _
  rw [hp,hl,Int.toNat_natCast,hd,hm,drop_one (show a < s.length by omega),drop_sub (a + 1) n,drop_one (show a + 1 + n < s.length by omega),drop_one (show a + 1 + n + 1 < s.length by omega),drop_one (show a + 1 + n + 1 + 1 < s.length by omega),drop_one (show a + 1 + n + 1 + 1 + 1 < s.length by omega),drop_sub (a + 1 + n + 1 + 1 + 1 + 1) (num2 s (a + 1 + n + 2)),← hn,UInt8.ofNat_toNat]
  simp
 ·unfold entF
  rw [if_neg (show ¬ (k < 1 ∨ 5 < k) by omega)]
  rw [if_neg (show ¬ pathE es ⟨sub s (a + 1) n,k,(num2 s (a + 1 + n):Nat),sub s (a + 1 + n + 4) (num2 s (a + 1 + n + 2))⟩ ≠ 0 from h4)]
  rw [if_neg h6]
  rw [if_neg (by rw [hl];exact h8),if_neg h10]
end Go.Proofs.YtifhnpkapgaboaaGreat.arch
