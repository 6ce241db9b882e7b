/-
  Proved: what is read of an image's stream is written as it stood, what is written is read as it was; where a fault lies (plain). Conditions: as each theorem says. No program is in sight.
-/
import Derived.Test.YtifhnpkapgaboaaGreatPj25
import Derived.Test.YtifhnpkapgaboaaGreatPj39
set_option linter.unusedVariables false
set_option linter.unusedSimpArgs false
namespace Go.Proofs.YtifhnpkapgaboaaGreat.arch
open Go Go.RowKit
open path (cleanB belowB)
open fld (Fld applyF Sk apply_sk)
theorem layG_end {s:Nm}:∀ (f a:Nat) (es:List Ent) (F:Fld) {r:List Ent × Fld} {b:Nat},layG s f a es F = .ok (r,b) → a < b ∧ b ≤ s.length
 | 0,a,es,F,r,b,h=>by rw [layG] at h;cases h
 | f + 1,a,es,F,r,b,h=>by
  rw [layG] at h
  by_cases h1:s.length < a + 1
  ·rw [if_pos h1] at h;cases h
  rw [if_neg h1] at h
  by_cases h2:(s.getD a 0).toNat = 0
  ·rw [if_pos h2] at h
   by_cases h3:128 < F.nodes.length
   ·rw [if_pos h3] at h;cases h
   ·rw [if_neg h3] at h;cases h;omega
  rw [if_neg h2] at h
  by_cases h3:5 < (s.getD a 0).toNat
  ·rw [if_pos h3] at h;cases h
  rw [if_neg h3] at h
  by_cases h4:256 ≤ es.length
  ·rw [if_pos h4] at h;cases h
  rw [if_neg h4] at h
  cases he:entG s (s.getD a 0).toNat (a + 1) es F with
  | error q=>rw [he] at h;cases h
  | ok x =>
   obtain ⟨⟨e,F1⟩,b1⟩:=x
   rw [he] at h
   have k1:=entG_le he
   have k2:=layG_end f b1 _ _ h
   omega
theorem layerG_end {s:Nm} {a b:Nat} {F:Fld} {r:List Ent × Fld} (h:layerG s a F = .ok (r,b)):a < b ∧ b ≤ s.length:=by
 unfold layerG markD at h
 by_cases hm:mkL.isPrefixOf (s.drop a) = true
 ·rw [if_pos hm] at h
  have:=layG_end _ _ _ _ h
  simp [mkL] at this
  omega
 ·rw [if_neg hm] at h
  cases h
theorem mark_back {s m:Nm} {a:Nat} (h:m.isPrefixOf (s.drop a) = true):s.drop a = m ++ s.drop (a + m.length):=by
 obtain ⟨t,ht⟩:=List.isPrefixOf_iff_prefix.1 h
 rw [← List.drop_drop,← ht,List.drop_left]
theorem body_cons (e:Ent) (r:List Ent):bodyS (e :: r) = entS e ++ bodyS r:=by simp [bodyS]
theorem lay_back {s:Nm}:∀ (f a:Nat) (es:List Ent) (F:Fld) (es':List Ent) (F':Fld) (b:Nat),layG s f a es F = .ok ((es',F'),b) →
  ∃ new,es' = es ++ new ∧ s.drop a = bodyS new ++ ([0] ++ s.drop b) ∧ (∀ i x,es.length ≤ i → es'[i]? = some x → entF (es'.take i) x = 0) ∧ headsF F new = some F' ∧ (es.length ≤ 256 → es'.length ≤ 256) ∧ F'.nodes.length ≤ 128
 | 0,a,es,F,es',F',b,h=>by rw [layG] at h;cases h
 | f + 1,a,es,F,es',F',b,h=>by
  rw [layG] at h
  by_cases h1:s.length < a + 1
  ·rw [if_pos h1] at h;cases h
  rw [if_neg h1] at h
  have h1':a < s.length:=by omega
  by_cases h2:(s.getD a 0).toNat = 0
  ·rw [if_pos h2] at h
   by_cases h3:128 < F.nodes.length
   ·rw [if_pos h3] at h;cases h
   rw [if_neg h3] at h
   cases h
   refine ⟨[],by simp,?_,fun i x hi hx => ?_,rfl,id,by omega⟩
   ·rw [drop_one h1']
    have:s.getD a 0 = 0:=UInt8.toNat_inj.1 (by rw [h2];rfl)
    rw [this]
    rfl
   ·have:=(List.getElem?_eq_some_iff.1 hx).1
    omega
  rw [if_neg h2] at h
  by_cases h3:5 < (s.getD a 0).toNat
  ·rw [if_pos h3] at h;cases h
  rw [if_neg h3] at h
  by_cases h4:256 ≤ es.length
  ·rw [if_pos h4] at h;cases h
  rw [if_neg h4] at h
  cases he:entG s (s.getD a 0).toNat (a + 1) es F with
  | error q=>rw [he] at h;cases h
  | ok x =>
   obtain ⟨⟨e,F1⟩,b1⟩:=x
   rw [he] at h
   obtain ⟨g1,g2,g3⟩:=entG_to he
   obtain ⟨k1,k2,k3,k4,k5⟩:=ent_bytes g1
   obtain ⟨new,n1,n2,n5,n6,n7,n8⟩:=lay_back f b1 (es ++ [e]) F1 es' F' b h
   refine ⟨e :: new,by rw [n1];simp,?_,fun i x hi hx => ?_,?_,fun hl=>n7 (by simp;omega),n8⟩
   ·rw [drop_one h1',k2,n2,body_cons,ent_tail,k1,Int.toNat_natCast,UInt8.ofNat_toNat]
    simp
   ·by_cases hie:i = es.length
    ·subst hie
     rw [n1] at hx ⊢
     rw [List.append_assoc,List.getElem?_append_right (Nat.le_refl _)] at hx
     simp at hx
     subst hx
     rw [List.append_assoc,List.take_left']
     ·exact k5 (by omega) (by omega)
     ·rfl
    ·exact n5 i x (by simp;omega) hx
   ·rw [headsF,g2]
    exact n6
theorem formG_zero (es:List Ent) (h:∀ i x,es[i]? = some x → entF (es.take i) x = 0):∀ (f i:Nat),i + f ≤ es.length → formG es f i = (0,0)
 | 0,i,_=>rfl
 | f + 1,i,hi=>by
  obtain ⟨x,hx⟩:∃ x,es[i]? = some x:=⟨_,List.getElem?_eq_getElem (by omega)⟩
  rw [formG_step es f i x hx,if_pos (h i x hx)]
  exact formG_zero es h f (i + 1) (by omega)
theorem formL_zero {es:List Ent} (h:∀ i x,es[i]? = some x → entF (es.take i) x = 0) (hl:es.length ≤ 256):formL es = (0,0):=by
 unfold formL
 rw [if_neg (by omega)]
 exact formG_zero es h _ _ (by omega)
theorem layer_back {s:Nm} {a b:Nat} {F F':Fld} {es:List Ent} (h:layerG s a F = .ok ((es,F'),b)):s.drop a = streamL es ++ s.drop b ∧ (formL es).2 = 0 ∧ headsF F es = some F' ∧ F'.nodes.length ≤ 128:=by
 unfold layerG markD at h
 by_cases hm:mkL.isPrefixOf (s.drop a) = true
 ·rw [if_pos hm] at h
  obtain ⟨new,n1,n2,n5,n6,n7,n8⟩:=lay_back _ _ _ _ _ _ _ h
  rw [List.nil_append] at n1
  subst n1
  refine ⟨?_,?_,n6,n8⟩
  ·rw [mark_back hm,n2]
   unfold streamL mkL
   simp
  ·rw [formL_zero (fun i x hx=>n5 i x (Nat.zero_le _) hx) (n7 (by simp))]
 ·rw [if_neg hm] at h
  cases h
theorem apps_of {es:List Ent}:∀ {F F' G:Fld} (t:Nat),headsF F es = some F' → Sk F G → ∃ G',appsL G es t = .ok (G',t + es.length) ∧ Sk F' G':=by
 induction es with
 | nil=>intro F F' G t h hs;rw [headsF] at h;cases h;exact ⟨G,rfl,hs⟩
 | cons e r ih =>
  intro F F' G t h hs
  rw [headsF] at h
  rw [appsL]
  rcases apply_sk hs (e:=hd e) (e':=e) rfl rfl with ⟨h1,h2⟩ | ⟨F1,G1,h1,h2,h3⟩
  ·rw [h1] at h;cases h
  ·rw [h1] at h
   rw [h2]
   obtain ⟨G',k1,k2⟩:=ih (t + 1) h h3
   exact ⟨G',by rw [show t + (e :: r).length = t + 1 + r.length by simp;omega];exact k1,k2⟩
theorem lays_back {s:Nm}:∀ (m a:Nat) (ls:List (List Ent)) (F:Fld) (ls':List (List Ent)) (b:Nat) (G:Fld) (t:Nat),a ≤ s.length → laysG s m a ls F = .ok (ls',b) → Sk F G →
  ∃ new,ls' = ls ++ new ∧ new.length = m ∧ s.drop a = (new.map streamL).flatten ++ s.drop b ∧ b ≤ s.length ∧ (∀ es ∈ new,(formL es).2 = 0) ∧ appsI G new t = .ok ()
 | 0,a,ls,F,ls',b,G,t,ha,h,hs=>by
  rw [laysG] at h
  cases h
  exact ⟨[],by simp,rfl,by simp,ha,by simp,rfl⟩
 | m + 1,a,ls,F,ls',b,G,t,ha,h,hs=>by
  rw [laysG] at h
  cases he:layerG s a F with
  | error q=>rw [he] at h;cases h
  | ok x =>
   obtain ⟨⟨es,F1⟩,b1⟩:=x
   rw [he] at h
   obtain ⟨k1,k2,k3,k4⟩:=layer_back he
   obtain ⟨G1,g1,g2⟩:=apps_of t k3 hs
   obtain ⟨new,n1,n2,n3,n4,n5,n6⟩:=lays_back m b1 (ls ++ [es]) F1 ls' b G1 (t + es.length) (layerG_end he).2 h g2
   refine ⟨es :: new,by rw [n1];simp,by simp [n2],?_,n4,fun x hx => ?_,?_⟩
   ·rw [k1,n3];simp
   ·rcases List.mem_cons.1 hx with rfl | hx
    ·exact k2
    ·exact n5 x hx
   ·rw [appsI,g1]
    simp only
    rw [if_neg (by rw [← g2.len];omega)]
    exact n6
theorem mays_none:∀ (ls:List (List Ent)) (n:Nat),(∀ es ∈ ls,(formL es).2 = 0) → maysI ls n = none
 | [],n,_=>rfl
 | es :: r,n,h=>by
  rw [maysI,if_neg (by rw [h es (List.mem_cons_self ..)];simp)]
  exact mays_none r _ fun x hx=>h x (List.mem_cons_of_mem _ hx)
theorem mays_all:∀ (ls:List (List Ent)) (n:Nat),maysI ls n = none → ∀ es ∈ ls,(formL es).2 = 0
 | [],n,_,es,h=>by cases h
 | x :: r,n,h,es,he=>by
  rw [maysI] at h
  by_cases h1:(formL x).2 ≠ 0
  ·rw [if_pos h1] at h;cases h
  ·rw [if_neg h1] at h
   rcases List.mem_cons.1 he with rfl | he
   ·exact Classical.byContradiction h1
   ·exact mays_all r _ h es he
theorem mays_ne:∀ (ls:List (List Ent)) (n:Nat) {p:Int × Int},maysI ls n = some p → p.2 ≠ 0
 | [],n,p,h=>by cases h
 | x :: r,n,p,h=>by
  rw [maysI] at h
  by_cases h1:(formL x).2 ≠ 0
  ·rw [if_pos h1] at h;cases h;exact h1
  ·rw [if_neg h1] at h;exact mays_ne r _ h
theorem dec_enc {s:Nm} {ls:List (List Ent)} (h:decI s = .ok ls):encI ls = (s,0,0):=by
 unfold decI readG at h
 by_cases h0:65536 < s.length
 ·rw [if_pos h0] at h;cases h
 rw [if_neg h0] at h
 cases hi:imgG s with
 | error q=>rw [hi] at h;cases h
 | ok x =>
  obtain ⟨ls',b⟩:=x
  rw [hi] at h
  simp only at h
  by_cases hb:b < s.length
  ·rw [if_pos hb] at h;cases h
  rw [if_neg hb] at h
  cases h
  unfold imgG markD at hi
  by_cases hp:mkI.isPrefixOf (s.drop 0) = true
  ·rw [if_pos hp] at hi
   simp only at hi
   have hmk:=mark_back hp
   have hml:=mark_len hp
   have e3:0 + mkI.length = 3:=rfl
   rw [e3] at hi hmk
   unfold numD at hi
   by_cases h1:s.length < 3 + 1
   ·rw [if_pos h1] at hi;cases hi
   rw [if_neg h1] at hi
   simp only at hi
   by_cases h2:12 < numV s 3 1
   ·rw [if_pos h2] at hi;cases hi
   rw [if_neg h2] at hi
   obtain ⟨new,n1,n2,n3,n4,n5,n6⟩:=lays_back _ _ _ _ _ _ F0 0 (by omega) hi (Sk.refl _)
   rw [List.nil_append] at n1
   subst n1
   have hbe:s.drop b = []:=List.drop_eq_nil_of_le (by omega)
   rw [hbe,List.append_nil] at n3
   have hout:outI ls = s:=by
    unfold outI
    rw [n2,show numV s 3 1 = (s.getD 3 0).toNat from rfl,UInt8.ofNat_toNat,← n3,List.singleton_append,← drop_one (show 3 < s.length by omega),← hmk,List.drop_zero]
   unfold encI
   rw [if_neg (by omega),mays_none _ _ n5]
   simp only
   rw [n6]
   simp only
   rw [hout,if_neg h0]
  ·rw [if_neg hp] at hi;cases hi
end Go.Proofs.YtifhnpkapgaboaaGreat.arch
