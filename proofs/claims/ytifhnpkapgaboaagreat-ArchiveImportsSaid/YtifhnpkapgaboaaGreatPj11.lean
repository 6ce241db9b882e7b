/-
  Proved: what the document's two, stream, Encode give. Conditions: as each theorem says.
-/
import Derived.Test.YtifhnpkapgaboaaGreatPj9
import Derived.Test.YtifhnpkapgaboaaGreatPj10
import Derived.Test.YtifhnpkapgaboaaGreatPj1
set_option linter.unusedVariables false
set_option linter.unusedSimpArgs false
namespace Go.Proofs.YtifhnpkapgaboaaGreat.arch
open Go.RowKit
open heap
open path (sv str_size cleanB belowB)
set_option maxRecDepth 100000
theorem app_str (a b:Nm):(⟨a.toArray⟩:ByteArray) ++ ⟨b.toArray⟩ = ⟨(a ++ b).toArray⟩:=by
 apply ByteArray.ext
 simp [ByteArray.data_append]
theorem ofNat_mod (n:Nat):UInt8.ofNat (n % 256) = UInt8.ofNat n:=by
 apply UInt8.toNat_inj.1
 simp
theorem le_two (n:Nat) (h:n < 65536):num.leS n 2 = ⟨(le2 n).toArray⟩ ∧ num.leE n 2 = 0:=by
 have hg:num.leGood n 2 = true:=(num.leGood_iff n 2).2 ⟨by omega,by omega,by show n < 256 ^ 2;omega⟩
 obtain ⟨h1,h2⟩:=num.le_yes hg
 refine ⟨h1.trans ?_,h2⟩
 have e0:((n:Int) % 256).toNat = n % 256:=by omega
 have e1:((n:Int) / 256 % 256).toNat = n / 256 % 256:=by omega
 simp [strOfNums,num.bytesTo,num.byteAt,List.range_succ,le2,e0,e1,ofNat_mod]
theorem formG_ok (es:List Ent):∀ (f i:Nat),(formG es f i).2 = 0 → ∀ j x,i ≤ j → j < i + f → es[j]? = some x → entF (es.take j) x = 0
 | 0,i,_,j,x,h1,h2,_=>by omega
 | f + 1,i,h,j,x,h1,h2,hx=>by
  rw [formG] at h
  by_cases he:entF (es.take i) (es.getD i e0) = 0
  ·rw [if_pos he] at h
   by_cases hij:j = i
   ·subst hij
    rw [List.getD_eq_getElem?_getD,hx] at he
    exact he
   ·exact formG_ok es f (i + 1) h j x (by omega) (by omega) hx
  ·rw [if_neg he] at h
   exact absurd h he
theorem form_ok {es:List Ent} (h:(formL es).2 = 0):es.length ≤ 256 ∧ ∀ x ∈ es,1 ≤ x.kind ∧ x.kind ≤ 5 ∧ x.path ≠ [] ∧ x.path.length ≤ 140 ∧ 0 ≤ x.mode ∧ x.mode ≤ 511 ∧ x.data.length ≤ 1024:=by
 unfold formL at h
 split at h
 ·exact absurd h (by decide)
 ·refine ⟨by omega,fun x hx => ?_⟩
  obtain ⟨j,hj⟩:=List.getElem?_of_mem hx
  have hl:=(List.getElem?_eq_some_iff.1 hj).1
  exact ent_ok (formG_ok es es.length 0 h j x (by omega) (by omega) hj)
theorem ent_len (x:Ent) (h1:x.path.length ≤ 140) (h2:x.data.length ≤ 1024):(entS x).length ≤ 1170:=by
 unfold entS le2
 simp only [List.length_cons,List.length_append,List.length_nil]
 omega
theorem body_len (es:List Ent) (h:∀ x ∈ es,x.path.length ≤ 140 ∧ x.data.length ≤ 1024) (i:Nat) (hi:i ≤ es.length):(bodyS (es.take i)).length ≤ 1170 * i:=by
 induction i with
 | zero=>simp [bodyS]
 | succ i ih =>
  have hx:es[i]? = some es[i]:=List.getElem?_eq_getElem (by omega)
  rw [body_snoc es i _ hx,List.length_append]
  have h1:=h _ (List.mem_of_getElem? hx)
  have h2:=ent_len es[i] h1.1 h1.2
  have h3:=ih (by omega)
  omega
theorem entS_app (T:Nm) (x:Ent):((((T ++ [UInt8.ofNat x.kind.toNat,UInt8.ofNat x.path.length]) ++ x.path) ++ le2 x.mode.toNat) ++ le2 x.data.length) ++ x.data = T ++ entS x:=by
 unfold entS
 simp
end Go.Proofs.YtifhnpkapgaboaaGreat.arch
