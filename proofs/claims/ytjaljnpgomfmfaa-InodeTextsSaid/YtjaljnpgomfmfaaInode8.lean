/-
  Proved: what inode.Decode gives. Conditions: as each theorem says.
-/
import Derived.Test.YtjaljnpgomfmfaaInode7
namespace Go.Proofs.Ytjaljnpgomfmfaa.inode
open Go.RowKit
open heap
open num (Num_any list_len leS leE leGood U64)
set_option linter.unusedVariables false

theorem toList_data (s : ByteArray) : s.toList = s.data.toList := by
  exact ByteArray.toList_eq s
theorem str_ne {a b : ByteArray} (h : a ≠ b) : (a.toList == b.toList) = false := by
  rw [beq_eq_false_iff_ne, toList_data, toList_data]
  intro h2
  exact h (ByteArray.ext (Array.toList_inj.1 h2))
theorem at01 (S : ByteArray) (B : Nat) (w : World) (hc : w.cell? ⟨B, 0, none⟩ = some (.string S)) (hS : S.size = 64) :
    Calls Try.prog 81 #[.int .i64 0, .int .i64 1, .pointer (some ⟨B, 0, none⟩)] w fun e w' => e = .returned (.int .i64 (fld S 0 1)) ∧ w = w' :=
  at_any S B 0 1 w hc hS (by omega) (by omega) (by omega) (by omega)
theorem at11 (S : ByteArray) (B : Nat) (w : World) (hc : w.cell? ⟨B, 0, none⟩ = some (.string S)) (hS : S.size = 64) :
    Calls Try.prog 81 #[.int .i64 1, .int .i64 1, .pointer (some ⟨B, 0, none⟩)] w fun e w' => e = .returned (.int .i64 (fld S 1 1)) ∧ w = w' :=
  at_any S B 1 1 w hc hS (by omega) (by omega) (by omega) (by omega)
theorem at44 (S : ByteArray) (B : Nat) (w : World) (hc : w.cell? ⟨B, 0, none⟩ = some (.string S)) (hS : S.size = 64) :
    Calls Try.prog 81 #[.int .i64 4, .int .i64 4, .pointer (some ⟨B, 0, none⟩)] w fun e w' => e = .returned (.int .i64 (fld S 4 4)) ∧ w = w' :=
  at_any S B 4 4 w hc hS (by omega) (by omega) (by omega) (by omega)
theorem at8 (S : ByteArray) (B k : Nat) (w : World) (hc : w.cell? ⟨B, 0, none⟩ = some (.string S)) (hS : S.size = 64) (hk : k < 14) :
    Calls Try.prog 81 #[.int .i64 (8 + 4 * (k : Int)), .int .i64 2, .pointer (some ⟨B, 0, none⟩)] w fun e w' => e = .returned (.int .i64 (dEx S k).1) ∧ w = w' := by
  have h := at_any S B (8 + 4 * (k : Int)) 2 w hc hS (by omega) (by omega) (by omega) (by omega)
  rw [show (8 + 4 * (k : Int)).toNat = 8 + 4 * k by omega] at h
  exact h
theorem at10 (S : ByteArray) (B k : Nat) (w : World) (hc : w.cell? ⟨B, 0, none⟩ = some (.string S)) (hS : S.size = 64) (hk : k < 14) :
    Calls Try.prog 81 #[.int .i64 (10 + 4 * (k : Int)), .int .i64 2, .pointer (some ⟨B, 0, none⟩)] w fun e w' => e = .returned (.int .i64 (dEx S k).2) ∧ w = w' := by
  have h := at_any S B (10 + 4 * (k : Int)) 2 w hc hS (by omega) (by omega) (by omega) (by omega)
  rw [show (10 + 4 * (k : Int)).toNat = 10 + 4 * k by omega] at h
  exact h
/-- What is known of the blocks of Decode in a round. -/
structure DecAt (S : ByteArray) (w : World) (sv : Value) (k : Nat) (wr : World) : Prop where
  str : wr.heap[w.heap.size]? = some (.cells #[.string S] 9 (0, 0))
  res : wr.heap[w.heap.size + 1]? = some (.cells #[.int .i64 0, .int .i64 0, .slice none 0 0] 73 (0, 0))
  ino : wr.heap[w.heap.size + 2]? = some (.cells #[.int .i64 (fld S 0 1), .int .i64 (fld S 4 4), sv] 73 (0, 0))
  row : wr.ownsRow (w.heap.size + 3) 41 2 sv k (exCells (dEx S) k)
  bel : Below w.heap.size w wr
theorem dec_start (S : ByteArray) (w : World) : DecAt S w (.slice none 0 0) 0 (((w.alloc (.cells #[.string S] 9)).alloc (.cells #[.int .i64 0, .int .i64 0, .slice none 0 0] 73)).alloc (.cells #[.int .i64 (fld S 0 1), .int .i64 (fld S 4 4), .slice none 0 0] 73)) := by
  refine ⟨?_, ?_, ?_, World.ownsRow_nil _ _ _ _, (((Below.refl _ _).alloc (Nat.le_refl _) _).alloc (by simp) _).alloc (by simp; omega) _⟩
  · exact blk_old (blk_old (blk_new w _) _) _
  · have := blk_new (w.alloc (.cells #[.string S] 9)) (.cells #[.int .i64 0, .int .i64 0, .slice none 0 0] 73)
    rw [World.size_alloc] at this
    exact blk_old this _
  · have := blk_new ((w.alloc (.cells #[.string S] 9)).alloc (.cells #[.int .i64 0, .int .i64 0, .slice none 0 0] 73)) (.cells #[.int .i64 (fld S 0 1), .int .i64 (fld S 4 4), .slice none 0 0] 73)
    rw [World.size_alloc, World.size_alloc] at this
    exact this
theorem row_turned {w w' : World} {base n : Nat} {v : Value} {xs : List Value} {S : List Nat} (h : w.ownsRow base 41 2 v n xs) (ht : Turned S w w') (hS : ∀ b, v.ownBlock = some b → b ∉ S) : w'.ownsRow base 41 2 v n xs := by
  obtain ⟨hl, h1 | ⟨g, c, cur, rfl, h2, h3, h4⟩⟩ := h
  · exact ⟨hl, .inl h1⟩
  · exact ⟨hl, .inr ⟨g, c, cur, rfl, h2, ht.kept h3 (hS g rfl), h4⟩⟩
def decS (sv : Value) (p : Nat) : Nat → List Nat
  | 14 => sv.ownBlock.toList
  | 16 => [p]
  | _ => []
theorem decS_mem {sv : Value} {p j b : Nat} (h : b ∈ decS sv p j) : (j = 14 ∧ sv.ownBlock = some b) ∨ (j = 16 ∧ b = p) := by
  unfold decS at h
  split at h
  · exact .inl ⟨rfl, by simpa using h⟩
  · exact .inr ⟨rfl, by simpa using h⟩
  · cases h
def DecY (S : ByteArray) (w wr w' : World) : Prop := wr.heap.size ≤ w'.heap.size ∧ w'.heap[w.heap.size]? = some (.cells #[.string S] 9 (0, 0)) ∧ w'.heap[w.heap.size + 1]? = some (.cells #[.int .i64 0, .int .i64 0, .slice none 0 0] 73 (0, 0)) ∧ Below w.heap.size w w'
theorem row_base {w : World} {b b' n : Nat} {v : Value} {xs : List Value} (h : w.ownsRow b 41 2 v n xs) (hb : b' ≤ b) : w.ownsRow b' 41 2 v n xs := by
  obtain ⟨hl, h1 | ⟨g, c, cur, rfl, h2, h3⟩⟩ := h
  · exact ⟨hl, .inl h1⟩
  · exact ⟨hl, .inr ⟨g, c, cur, rfl, Nat.le_trans hb h2, h3⟩⟩
set_option maxRecDepth 100000 in
set_option maxHeartbeats 1600000 in
theorem Decode_main (S : ByteArray) (w : World) (hS : S.size = 64) (h14 : fld S 1 1 ≤ 14) :
    Calls Try.prog 66 #[.string S] w fun e w' => (decOk S = true → ∃ a cap, e = .returned (.tuple #[inoV (fld S 0 1) (fld S 4 4) a (fld S 1 1) cap, .int .i64 0]) ∧ XRow w' w.heap.size (.slice a (fld S 1 1) cap) (fld S 1 1) (dEx S)) ∧
      (decOk S = false → e = .returned (.tuple #[inoV 0 0 none 0 0, .int .i64 1000])) ∧ Below w.heap.size w w' := by
  have b1 : ((S.size : Int) != 64) = false := by rw [hS]; rfl
  have h1 : 1 < S.size := by omega
  have HF1 := Lib.hid (fld_one S 1 h1)
  have h15 : ¬ 14 < S[1].toNat := by rw [← fld_one S 1 h1]; omega
  have b2 : decide ((14 : Int) < ((S[1].toNat : Nat) : Int)) = false := by simp; omega
  have hi : (1 : Int) < S.size := by omega
  have HS := Lib.hid hS
  have HD0 := Lib.hid (dec_start S w)
  clear hS
  go_enter Try.func66, Try.ntmps66
  go_wp2_with fail
  (with_reducible refine (at01 S w.heap.size _ (by simp) HS.out).mono ?_); rintro e w1 ⟨rfl, rfl⟩
  go_wp2_with fail
  (with_reducible refine (at44 S w.heap.size _ (by simp) HS.out).mono ?_); rintro e w1 ⟨rfl, rfl⟩
  go_wp2_with fail
  (with_reducible refine (at11 S w.heap.size _ (by rw [blk_cell HD0.out.str]; simp) HS.out).mono ?_); rintro e w1 ⟨rfl, rfl⟩
  generalize hW0 : ((w.alloc (.cells #[.string S] 9)).alloc (.cells #[.int .i64 0, .int .i64 0, .slice none 0 0] 73)).alloc (.cells #[.int .i64 (fld S 0 1), .int .i64 (fld S 4 4), .slice none 0 0] 73) = W0 at *
  clear hW0
  go_wp2_with fail
  go_loopw [26] (fun i wr => ∃ (k : Nat) (sv : Value), k ≤ fld S 1 1 ∧ i = .int .i64 k ∧ Hid (DecAt S w sv k wr)) (fun i _ => fld S 1 1 - (intOf i).toNat)
  case atStart => exact ⟨0, _, Nat.zero_le _, rfl, HD0⟩
  case round =>
    obtain ⟨k, sv, hk, rfl, HD⟩ := hrel
    by_cases hlt : k < fld S 1 1
    · have hk14 : k < 14 := by omega
      have HSV := Lib.hid HD.out.row.lt
      have q4 : IntKind.i64.wrap (4 * (k : Int)) = 4 * k := by rw [IntKind.wrap_i64]; omega
      have q8 : IntKind.i64.wrap (8 + 4 * (k : Int)) = 8 + 4 * k := by rw [IntKind.wrap_i64]; omega
      have q10 : IntKind.i64.wrap (10 + 4 * (k : Int)) = 10 + 4 * k := by rw [IntKind.wrap_i64]; omega
      have hpl : w.heap.size + 2 < wr.heap.size := blk_lt HD.out.ino
      go_wp2_with fail
      refine reg.region_eachG (by kernel_rfl) (fun rj w1 w2 => heap.Turned (decS sv (w.heap.size + 2) rj) w1 w2) (fun w' => DecY S w wr w') (fun ri v w' => match ri with
          | 0 => v = .pointer (some ⟨w.heap.size + 2, 2, none⟩)
          | 1 => v = sv
          | 2 => v = .func (.func 81) #[] #[.pointer (some ⟨w.heap.size, 0, none⟩)]
          | 3 => v = .int .i64 k
          | 4 => v = .int .i64 (4 * k)
          | 5 => v = .int .i64 (8 + 4 * k)
          | 6 => v = .int .i64 (dEx S k).1
          | 7 => v = .func (.func 81) #[] #[.pointer (some ⟨w.heap.size, 0, none⟩)]
          | 8 => v = .int .i64 k
          | 9 => v = .int .i64 (4 * k)
          | 10 => v = .int .i64 (10 + 4 * k)
          | 11 => v = .int .i64 (dEx S k).2
          | 12 => v = .agg #[.int .i64 (dEx S k).1, .int .i64 (dEx S k).2]
          | 13 => ∃ h, v = .slice (some ⟨h, 0, none⟩) 1 1 ∧ wr.heap.size ≤ h ∧ w'.heap[h]? = some (.cells #[.int .i64 (dEx S k).1, .int .i64 (dEx S k).2] 41 (0, 0))
          | 14 => w'.ownsRow (w.heap.size + 3) 41 2 v (k + 1) (exCells (dEx S) (k + 1))
          | 15 => v = .pointer (some ⟨w.heap.size + 2, 2, none⟩)
          | 16 => ∃ u, w'.heap[w.heap.size + 2]? = some (.cells #[.int .i64 (fld S 0 1), .int .i64 (fld S 4 4), u] 73 (0, 0)) ∧ w'.ownsRow (w.heap.size + 3) 41 2 u (k + 1) (exCells (dEx S) (k + 1))
          | _ => True) (fun rk w' => match rk with
          | 14 => w'.ownsRow (w.heap.size + 3) 41 2 sv k (exCells (dEx S) k)
          | 16 => w'.heap[w.heap.size + 2]? = some (.cells #[.int .i64 (fld S 0 1), .int .i64 (fld S 4 4), sv] 73 (0, 0))
          | _ => True) ?yz1 ?gz1 ?yk1 ?mono1 ?gk1 (by kernel_rfl) ?step1 ?fin1
      case yz1 => exact ⟨Nat.le_refl _, HD.out.str, HD.out.res, HD.out.bel.drew⟩
      case gz1 =>
        intro k
        split <;> first | trivial | (first | exact HD.out.row | exact HD.out.ino)
      case yk1 =>
        intro j w1 w2 h hx
        exact ⟨Nat.le_trans h.1 hx.size, hx.kept h.2.1 (fun hm => by rcases decS_mem hm with ⟨_, e⟩ | ⟨_, e⟩ <;> first | omega | (have := HSV.out _ e; omega)), hx.kept h.2.2.1 (fun hm => by rcases decS_mem hm with ⟨_, e⟩ | ⟨_, e⟩ <;> first | omega | (have := HSV.out _ e; omega)), h.2.2.2.trans (hx.below h.2.2.2.size (fun b hm => by rcases decS_mem hm with ⟨_, e⟩ | ⟨_, e⟩ <;> first | omega | (have := HSV.out _ e; omega)))⟩
      case mono1 =>
        intro j i v w1 w2 hij hj hr h hx
        rcases i with _|_|_|_|_|_|_|_|_|_|_|_|_|_|_|_|_|i
        · exact h
        · exact h
        · exact h
        · exact h
        · exact h
        · exact h
        · exact h
        · exact h
        · exact h
        · exact h
        · exact h
        · exact h
        · exact h
        · (obtain ⟨b, h1, h2, h3⟩ := h; exact ⟨b, h1, h2, hx.kept h3 (fun hm => by rcases decS_mem hm with ⟨_, e⟩ | ⟨_, e⟩ <;> first | omega | (have := HSV.out _ e; omega))⟩)
        · exact row_turned h hx (fun b hb hm => by rcases decS_mem hm with ⟨e, _⟩ | ⟨_, e⟩ <;> (have := (World.ownsRow.lt h b hb).1; omega))
        · exact h
        · exact (reg.last_no (by kernel_rfl) hij hj hr).elim
        · trivial
      case gk1 =>
        intro j k w1 w2 hkj h hx
        split at h <;> first | exact h | exact row_turned h hx (fun b hb hm => by rcases decS_mem hm with ⟨e, _⟩ | ⟨_, e⟩ <;> (have := HSV.out _ hb; omega)) | exact hx.kept h (fun hm => by rcases decS_mem hm with ⟨_, e⟩ | ⟨e, _⟩ <;> first | omega | (have := HSV.out _ e; omega))
      case step1 =>
        refine ⟨?_, ?_, ?_, ?_, ?_, ?_, ?_, ?_, ?_, ?_, ?_, ?_, ?_, ?_, ?_, ?_, ?_, trivial⟩
        · -- 0: slot 29 := Op.fieldAddr 73 t5 2
          intro ra w' hx hg hs
          have s5 : ra.eval (.tmp 5) = .pointer (some ⟨w.heap.size + 2, 0, none⟩) := hs.1
          clear hs
          change Oper.wp _ _ ra w' _ _
          refine reg.wp_value (v := .pointer (some ⟨w.heap.size + 2, 2, none⟩)) (w' := w') ?_ ⟨_, rfl, heap.Turned.refl _ _, rfl⟩
          intro ρ rc rf rg re
          rw [re] at s5
          simp [execOp, go_sem, rc, rf, rg, s5] <;> omega
        · -- 1: slot 30 := Op.load 71 t29
          intro ra w' hx hg hs
          have s29 : ra.eval (.tmp 29) = .pointer (some ⟨w.heap.size + 2, 2, none⟩) := hs.1
          clear hs
          change Oper.wp _ _ ra w' _ _
          have hc := blk_cell (hg 16 rfl) 2
          refine reg.wp_value (v := sv) (w' := w') ?_ ⟨_, rfl, heap.Turned.refl _ _, rfl⟩
          intro ρ rc rf rg re
          rw [re] at s29
          simp [execOp, go_sem, rc, rf, rg, s29, hc] <;> omega
        · -- 2: slot 31 := Op.move t4
          intro ra w' hx hg hs
          have s4 : ra.eval (.tmp 4) = .func (.func 81) #[] #[.pointer (some ⟨w.heap.size, 0, none⟩)] := hs.1
          clear hs
          change Oper.wp _ _ ra w' _ _
          refine reg.wp_value (v := .func (.func 81) #[] #[.pointer (some ⟨w.heap.size, 0, none⟩)]) (w' := w') ?_ ⟨_, rfl, heap.Turned.refl _ _, rfl⟩
          intro ρ rc rf rg re
          rw [re] at s4
          simp [execOp, go_sem, rc, rf, rg, s4] <;> omega
        · -- 3: slot 32 := Op.move t6
          intro ra w' hx hg hs
          have s6 : ra.eval (.tmp 6) = .int .i64 k := hs.1
          clear hs
          change Oper.wp _ _ ra w' _ _
          refine reg.wp_value (v := .int .i64 k) (w' := w') ?_ ⟨_, rfl, heap.Turned.refl _ _, rfl⟩
          intro ρ rc rf rg re
          rw [re] at s6
          simp [execOp, go_sem, rc, rf, rg, s6] <;> omega
        · -- 4: slot 33 := Op.binOp BinOp.mul 3 (const (4:i64)) t32 3
          intro ra w' hx hg hs
          have s32 : ra.eval (.tmp 32) = .int .i64 k := hs.1
          clear hs
          change Oper.wp _ _ ra w' _ _
          refine reg.wp_value (v := .int .i64 (4 * k)) (w' := w') ?_ ⟨_, rfl, heap.Turned.refl _ _, rfl⟩
          intro ρ rc rf rg re
          rw [re] at s32
          simp [execOp, go_sem, rc, rf, rg, s32, q4] <;> omega
        · -- 5: slot 34 := Op.binOp BinOp.add 3 (const (8:i64)) t33 3
          intro ra w' hx hg hs
          have s33 : ra.eval (.tmp 33) = .int .i64 (4 * k) := hs.1
          clear hs
          change Oper.wp _ _ ra w' _ _
          refine reg.wp_value (v := .int .i64 (8 + 4 * k)) (w' := w') ?_ ⟨_, rfl, heap.Turned.refl _ _, rfl⟩
          intro ρ rc rf rg re
          rw [re] at s33
          simp [execOp, go_sem, rc, rf, rg, s33, q8] <;> omega
        · -- 6: slot 35 := Op.call { value t31, args := #[t34, const (2:i64)], argTypes := #[3, 3] }
          intro ra w' hx hg hs
          have s31 : ra.eval (.tmp 31) = .func (.func 81) #[] #[.pointer (some ⟨w.heap.size, 0, none⟩)] := hs.1
          have s34 : ra.eval (.tmp 34) = .int .i64 (8 + 4 * k) := hs.2.1
          clear hs
          change Oper.wp _ _ ra w' _ _
          refine reg.wp_call (f := 81) (args := #[.int .i64 (8 + 4 * k), .int .i64 2, .pointer (some ⟨w.heap.size, 0, none⟩)]) (w' := w') ?_ ((at8 S w.heap.size k w' (blk_cell hx.2.1 0) HS.out hk14).mono ?_)
          · intro ρ rc rf rg re
            rw [re] at s31 s34
            simp [execOp, go_sem, rc, rf, rg, s31, s34] <;> omega
          · rintro e w2 ⟨rfl, rfl⟩
            exact ⟨_, rfl, _, rfl, heap.Turned.refl _ _, rfl⟩
        · -- 7: slot 36 := Op.move t4
          intro ra w' hx hg hs
          have s4 : ra.eval (.tmp 4) = .func (.func 81) #[] #[.pointer (some ⟨w.heap.size, 0, none⟩)] := hs.1
          clear hs
          change Oper.wp _ _ ra w' _ _
          refine reg.wp_value (v := .func (.func 81) #[] #[.pointer (some ⟨w.heap.size, 0, none⟩)]) (w' := w') ?_ ⟨_, rfl, heap.Turned.refl _ _, rfl⟩
          intro ρ rc rf rg re
          rw [re] at s4
          simp [execOp, go_sem, rc, rf, rg, s4] <;> omega
        · -- 8: slot 37 := Op.move t6
          intro ra w' hx hg hs
          have s6 : ra.eval (.tmp 6) = .int .i64 k := hs.1
          clear hs
          change Oper.wp _ _ ra w' _ _
          refine reg.wp_value (v := .int .i64 k) (w' := w') ?_ ⟨_, rfl, heap.Turned.refl _ _, rfl⟩
          intro ρ rc rf rg re
          rw [re] at s6
          simp [execOp, go_sem, rc, rf, rg, s6] <;> omega
        · -- 9: slot 38 := Op.binOp BinOp.mul 3 (const (4:i64)) t37 3
          intro ra w' hx hg hs
          have s37 : ra.eval (.tmp 37) = .int .i64 k := hs.1
          clear hs
          change Oper.wp _ _ ra w' _ _
          refine reg.wp_value (v := .int .i64 (4 * k)) (w' := w') ?_ ⟨_, rfl, heap.Turned.refl _ _, rfl⟩
          intro ρ rc rf rg re
          rw [re] at s37
          simp [execOp, go_sem, rc, rf, rg, s37, q4] <;> omega
        · -- 10: slot 39 := Op.binOp BinOp.add 3 (const (10:i64)) t38 3
          intro ra w' hx hg hs
          have s38 : ra.eval (.tmp 38) = .int .i64 (4 * k) := hs.1
          clear hs
          change Oper.wp _ _ ra w' _ _
          refine reg.wp_value (v := .int .i64 (10 + 4 * k)) (w' := w') ?_ ⟨_, rfl, heap.Turned.refl _ _, rfl⟩
          intro ρ rc rf rg re
          rw [re] at s38
          simp [execOp, go_sem, rc, rf, rg, s38, q10] <;> omega
        · -- 11: slot 40 := Op.call { value t36, args := #[t39, const (2:i64)], argTypes := #[3, 3] }
          intro ra w' hx hg hs
          have s36 : ra.eval (.tmp 36) = .func (.func 81) #[] #[.pointer (some ⟨w.heap.size, 0, none⟩)] := hs.1
          have s39 : ra.eval (.tmp 39) = .int .i64 (10 + 4 * k) := hs.2.1
          clear hs
          change Oper.wp _ _ ra w' _ _
          refine reg.wp_call (f := 81) (args := #[.int .i64 (10 + 4 * k), .int .i64 2, .pointer (some ⟨w.heap.size, 0, none⟩)]) (w' := w') ?_ ((at10 S w.heap.size k w' (blk_cell hx.2.1 0) HS.out hk14).mono ?_)
          · intro ρ rc rf rg re
            rw [re] at s36 s39
            simp [execOp, go_sem, rc, rf, rg, s36, s39] <;> omega
          · rintro e w2 ⟨rfl, rfl⟩
            exact ⟨_, rfl, _, rfl, heap.Turned.refl _ _, rfl⟩
        · -- 12: slot 41 := Op.build 41 #[(0, t35), (1, t40)]
          intro ra w' hx hg hs
          have s35 : ra.eval (.tmp 35) = .int .i64 (dEx S k).1 := hs.1
          have s40 : ra.eval (.tmp 40) = .int .i64 (dEx S k).2 := hs.2.1
          clear hs
          change Oper.wp _ _ ra w' _ _
          refine reg.wp_value (v := .agg #[.int .i64 (dEx S k).1, .int .i64 (dEx S k).2]) (w' := w') ?_ ⟨_, rfl, heap.Turned.refl _ _, rfl⟩
          intro ρ rc rf rg re
          rw [re] at s35 s40
          simp [execOp, go_sem, rc, rf, rg, s35, s40] <;> omega
        · -- 13: slot 42 := Op.buildSlice 71 1 #[(0, t41)]
          intro ra w' hx hg hs
          have s41 : ra.eval (.tmp 41) = .agg #[.int .i64 (dEx S k).1, .int .i64 (dEx S k).2] := hs.1
          clear hs
          change Oper.wp _ _ ra w' _ _
          refine reg.wp_value (v := .slice (some ⟨w'.heap.size, 0, none⟩) 1 1) (w' := w'.alloc (.cells #[.int .i64 (dEx S k).1, .int .i64 (dEx S k).2] 41 (0, 0))) ?_ ⟨_, rfl, (heap.Turned.refl _ _).alloc _, _, rfl, hx.1, blk_new _ _⟩
          intro ρ rc rf rg re
          rw [re] at s41
          simp [execOp, go_sem, rc, rf, rg, s41] <;> omega
        · -- 14: slot 43 := Op.call { builtin append, args := #[t30, t42], argTypes := #[71, 71] }
          intro ra w' hx hg hs
          have s30 : ra.eval (.tmp 30) = sv := hs.1
          have s42 : ∃ h, (ra.eval (.tmp 42)) = .slice (some ⟨h, 0, none⟩) 1 1 ∧ wr.heap.size ≤ h ∧ w'.heap[h]? = some (.cells #[.int .i64 (dEx S k).1, .int .i64 (dEx S k).2] 41 (0, 0)) := hs.2.1
          clear hs
          change Oper.wp _ _ ra w' _ _
          obtain ⟨b, hv, hb1, hb2⟩ := s42
          have hsz := blk_lt hb2
          obtain ⟨v2, w2, hrun, hown, hgr⟩ := append_x w' (w.heap.size + 3) sv k _ (hg 14 rfl) ⟨b, 0, none⟩ 1 1 [.int .i64 (dEx S k).1, .int .i64 (dEx S k).2] rfl (fun j u hu => by rw [add0, blk_cell hb2]; simpa using hu) (by simp [Value.oneCell']) (by omega) (by omega)
          rw [← exCells_snoc] at hown
          refine reg.wp_value (v := v2) (w' := w2) (reg.runs_append rfl rfl s30 hv hrun) ⟨_, rfl, ⟨hgr.os, hgr.tape, hgr.output, hgr.size, fun c hc hn => hgr.block c hc (fun e => hn (by simp [decS, ← e]))⟩, hown⟩
        · -- 15: slot 44 := Op.fieldAddr 73 t5 2
          intro ra w' hx hg hs
          have s5 : ra.eval (.tmp 5) = .pointer (some ⟨w.heap.size + 2, 0, none⟩) := hs.1
          clear hs
          change Oper.wp _ _ ra w' _ _
          refine reg.wp_value (v := .pointer (some ⟨w.heap.size + 2, 2, none⟩)) (w' := w') ?_ ⟨_, rfl, heap.Turned.refl _ _, rfl⟩
          intro ρ rc rf rg re
          rw [re] at s5
          simp [execOp, go_sem, rc, rf, rg, s5] <;> omega
        · -- 16: slot None := Op.store 71 t44 t43
          intro ra w' hx hg hs
          have s44 : ra.eval (.tmp 44) = .pointer (some ⟨w.heap.size + 2, 2, none⟩) := hs.1
          have s43 : w'.ownsRow (w.heap.size + 3) 41 2 (ra.eval (.tmp 43)) (k + 1) (exCells (dEx S) (k + 1)) := hs.2.1
          clear hs
          change Oper.wp _ _ ra w' _ _
          have hb := hg 16 rfl
          have hc := blk_cell hb 2
          have hf := blk_free hb 2
          have hne : ∀ b, (ra.eval (.tmp 43)).ownBlock = some b → b ∉ [w.heap.size + 2] := fun b hb hm => by have := (World.ownsRow.lt s43 b hb).1; simp at hm; omega
          refine reg.wp_skip (w' := w'.setCell ⟨w.heap.size + 2, 2, none⟩ (ra.eval (.tmp 43))) ?_ ⟨_, rfl, (heap.Turned.refl _ _).setCell (by simp [decS]) _, _, blk_set hb 2 _, row_turned s43 ((heap.Turned.refl _ _).setCell (by simp) _) hne⟩
          obtain ⟨a9, n9, c9, e9⟩ : ∃ a9 n9 c9, ra.eval (.tmp 43) = .slice a9 n9 c9 := by
            obtain ⟨_, ⟨h, _⟩ | ⟨_, _, _, h, _⟩⟩ := s43 <;> exact ⟨_, _, _, h⟩
          rw [e9]
          intro ρ rc rf rg re
          rw [re] at e9 s44
          simp [execOp, go_sem, e9, s44, hc, hf]
      intro rV w2 hx hf
      have ve0 : rV 0 = .pointer (some ⟨w.heap.size + 2, 2, none⟩) := hf 0 (by decide)
      have ve1 : rV 1 = sv := hf 1 (by decide)
      have ve2 : rV 2 = .func (.func 81) #[] #[.pointer (some ⟨w.heap.size, 0, none⟩)] := hf 2 (by decide)
      have ve3 : rV 3 = .int .i64 k := hf 3 (by decide)
      have ve4 : rV 4 = .int .i64 (4 * k) := hf 4 (by decide)
      have ve5 : rV 5 = .int .i64 (8 + 4 * k) := hf 5 (by decide)
      have ve6 : rV 6 = .int .i64 (dEx S k).1 := hf 6 (by decide)
      have ve7 : rV 7 = .func (.func 81) #[] #[.pointer (some ⟨w.heap.size, 0, none⟩)] := hf 7 (by decide)
      have ve8 : rV 8 = .int .i64 k := hf 8 (by decide)
      have ve9 : rV 9 = .int .i64 (4 * k) := hf 9 (by decide)
      have ve10 : rV 10 = .int .i64 (10 + 4 * k) := hf 10 (by decide)
      have ve11 : rV 11 = .int .i64 (dEx S k).2 := hf 11 (by decide)
      have ve12 : rV 12 = .agg #[.int .i64 (dEx S k).1, .int .i64 (dEx S k).2] := hf 12 (by decide)
      have ve13 := hf 13 (by decide)
      have ve14 := hf 14 (by decide)
      have ve15 : rV 15 = .pointer (some ⟨w.heap.size + 2, 2, none⟩) := hf 15 (by decide)
      have ve16 := hf 16 (by decide)
      clear hf
      simp only [List.zipIdx_cons, List.zipIdx_nil, List.foldl_cons, List.foldl_nil, Act.put, Nat.reduceAdd, List.setIfInBounds_toArray, List.set_cons_succ, List.set_cons_zero, ve0, ve1, ve2, ve3, ve4, ve5, ve6, ve7, ve8, ve9, ve10, ve11, ve12, ve15]
      clear ve0 ve1 ve2 ve3 ve4 ve5 ve6 ve7 ve8 ve9 ve10 ve11 ve12 ve15
      generalize rV 13 = v13 at *
      generalize rV 14 = v14 at *
      generalize rV 16 = v16 at *
      clear rV
      obtain ⟨u, hu1, hu2⟩ := ve16
      have HD2 : Hid (DecAt S w u (k + 1) w2) := ⟨hx.2.1, hx.2.2.1, hu1, hu2, hx.2.2.2⟩
      clear hx hu1 hu2 ve13 ve14 q4 q8 q10
      go_wp2_with fail
      go_roundw
      case rel => exact ⟨k + 1, u, by omega, by go_num, HD2⟩
      case measure => simp [intOf]; omega
    · obtain rfl : k = fld S 1 1 := by omega
      obtain ⟨a, cap, rfl⟩ : ∃ a cap, sv = .slice a (fld S 1 1) cap := by
        obtain ⟨_, ⟨h, h0⟩ | ⟨_, _, _, h, _⟩⟩ := HD.out.row
        · exact ⟨none, 0, by rw [h, h0]⟩
        · exact ⟨_, _, h⟩
      have HX : Hid (ExtsIn wr a (fld S 1 1) (dEx S)) := XRow.exts HD.out.row
      have i0 := blk_cell HD.out.ino 0
      have i1 := blk_cell HD.out.ino 1
      have i2 := blk_cell HD.out.ino 2
      have HDO : Hid (decOk S = (mayI (fld S 0 1) (fld S 4 4) (fld S 1 1) (dEx S) && decide (inoB (fld S 0 1) (fld S 4 4) (fld S 1 1) (dEx S) = S.data.toList))) := by
        rw [Hid, decOk, HS.out]; simp [h14]
      have HEN := Lib.hid (Encode_any (fld S 0 1) (fld S 4 4) a (fld S 1 1) cap (dEx S) wr HX.out (by omega))
      go_wp2_with fail
      (with_reducible refine HEN.out.mono ?_); rintro e w3 ⟨rfl, hb3⟩
      have HX3 := Lib.hid (World.ownsRow.kept HD.out.row (World.grownBy.mk hb3.os hb3.tape hb3.output hb3.size (fun b hb _ => hb3.block b hb) : wr.grownBy w3 none) (by cases a <;> simp [Value.ownBlock]))
      have HB3 : Hid (Below w.heap.size w w3) := HD.out.bel.trans (hb3.mono HD.out.bel.size)
      have hb1 := blk_below HD.out.res hb3
      have hbS := blk_below HD.out.str hb3
      have hbI := blk_below HD.out.ino hb3
      have t0 : w3.cell? ⟨w.heap.size, 0, none⟩ = some (.string S) := by rw [blk_cell hbS]; rfl
      have i0' : w3.cell? ⟨w.heap.size + 1 + 1, 0, none⟩ = some (.int .i64 (fld S 0 1)) := by rw [blk_cell hbI]; rfl
      have i1' : w3.cell? ⟨w.heap.size + 1 + 1, 1, none⟩ = some (.int .i64 (fld S 4 4)) := by rw [blk_cell hbI]; rfl
      have i2' : w3.cell? ⟨w.heap.size + 1 + 1, 2, none⟩ = some (.slice a (fld S 1 1) cap) := by rw [blk_cell hbI]; rfl
      have r0 : w3.cell? ⟨w.heap.size + 1, 0, none⟩ = some (.int .i64 0) := by rw [blk_cell hb1]; rfl
      have r1 : w3.cell? ⟨w.heap.size + 1, 1, none⟩ = some (.int .i64 0) := by rw [blk_cell hb1]; rfl
      have r2 : w3.cell? ⟨w.heap.size + 1, 2, none⟩ = some (.slice none 0 0) := by rw [blk_cell hb1]; rfl
      have f0 : w3.frozen? ⟨w.heap.size + 1, 0, none⟩ = false := blk_free hb1 0
      have f1 : w3.frozen? ⟨w.heap.size + 1, 1, none⟩ = false := blk_free hb1 1
      have f2 : w3.frozen? ⟨w.heap.size + 1, 2, none⟩ = false := blk_free hb1 2
      have HH1 := Lib.hid hb1
      clear hb3 hb1 hbS hbI i0 i1 i2
      cases hM : mayI (fld S 0 1) (fld S 4 4) (fld S 1 1) (dEx S) with
      | false =>
        have HN : Hid (decOk S = false) := by rw [Hid, HDO.out, hM]; rfl
        clear hM
        simp only [Bool.false_eq_true, if_false]
        go_wp2_with fail
        refine bodyPost_ret (v := .tuple #[inoV 0 0 none 0 0, .int .i64 1000]) ?_ rfl ⟨fun h => ?_, fun _ => rfl, ?_⟩
        · simp [results, Try.results66, go_sem, r0, r1, r2]
        · rw [HN.out] at h; cases h
        · exact ((HB3.out.setCell (by simp) _).setCell (by simp) _).setCell (by simp) _
      | true =>
        simp only [if_true]
        by_cases hI : inoB (fld S 0 1) (fld S 4 4) (fld S 1 1) (dEx S) = S.data.toList
        · have HN : Hid (decOk S = true) := by rw [Hid, HDO.out, hM]; simp [hI]
          have HE : Hid ((⟨(inoB (fld S 0 1) (fld S 4 4) (fld S 1 1) (dEx S)).toArray⟩ : ByteArray) = S) := by rw [Hid, hI]
          rw [HE.out]
          clear hM hI
          go_wp2_with fail
          refine bodyPost_ret (v := .tuple #[inoV (fld S 0 1) (fld S 4 4) a (fld S 1 1) cap, .int .i64 0]) ?_ rfl ⟨fun _ => ⟨a, cap, rfl, ?_⟩, fun h => ?_, ?_⟩
          · simp [results, Try.results66, go_sem, r0, r1, r2]
          · refine row_base (row_turned HX3.out (S := [w.heap.size + 1]) ((((heap.Turned.refl _ _).setCell (by simp) _).setCell (by simp) _).setCell (by simp) _) (fun b hb hm => ?_)) (by omega)
            have := (World.ownsRow.lt HX3.out b hb).1
            simp at hm
            omega
          · rw [HN.out] at h; cases h
          · exact ((HB3.out.setCell (by simp) _).setCell (by simp) _).setCell (by simp) _
        · have HN : Hid (decOk S = false) := by rw [Hid, HDO.out, hM]; simp [hI]
          have hne : ((⟨(inoB (fld S 0 1) (fld S 4 4) (fld S 1 1) (dEx S)).toArray⟩ : ByteArray).toList == S.toList) = false := str_ne (fun h => hI (by
            have := congrArg (fun s : ByteArray => s.data.toList) h
            simpa using this))
          generalize (⟨(inoB (fld S 0 1) (fld S 4 4) (fld S 1 1) (dEx S)).toArray⟩ : ByteArray) = T at *
          clear hM hI
          go_wp2_with fail
          refine bodyPost_ret (v := .tuple #[inoV 0 0 none 0 0, .int .i64 1000]) ?_ rfl ⟨fun h => ?_, fun _ => rfl, ?_⟩
          · simp [results, Try.results66, go_sem, r0, r1, r2]
          · rw [HN.out] at h; cases h
          · exact ((HB3.out.setCell (by simp) _).setCell (by simp) _).setCell (by simp) _
end Go.Proofs.Ytjaljnpgomfmfaa.inode
