/- The reference's InstText. -/
import Derived.Test.YtljjdkjmciheeaaDoorRc
namespace Go.Proofs.YtljjdkjmciheeaaDoor.P
open Go.RowKit Go.Lib

theorem row_some (op : Nat) (h : op < 23) : tableB[op]? = some (tableB.getD op ⟨#[]⟩) := by
  rw [List.getD_eq_getElem?_getD]
  have hl : op < tableB.length := h
  rw [List.getElem?_eq_getElem hl]; rfl
theorem row_words (op : Nat) (h : op < 23) : 1 ≤ (splitSp (tableB.getD op ⟨#[]⟩)).length := by rw [splitSp_len]; omega

set_option maxRecDepth 100000 in
theorem rcheck_no (op a b c : Int) (h : op < 0 ∨ 23 ≤ op) (w : World) (hl : LaidW w) :
    Calls Tryd.prog 25 #[.agg #[.int .i64 op, .int .i64 a, .int .i64 b, .int .i64 c]] w fun e w' => e = .returned (.int .i64 1) ∧ Below w.heap.size w w' := by
  have HL := Lib.hid hl
  have CT := Lib.hid table_any
  have hw22 : IntKind.i64.wrap 22 = 22 := by decide
  have ho : (decide (op < 0) || decide (22 < op)) = true := by
    rcases h with h | h
    · simp [h]
    · have : 22 < op := by omega
      simp [this]
  have HO := Lib.hid (outside2_any op 0 22 true ho)
  clear hl h ho
  go_enter Tryd.func25, Tryd.ntmps25
  go_wp2
  go_region_with (first
      | (go_at_call 27; refine (CT.out _ ?hq).mono ?_; (case hq => exact HL.out.below (by first | exact (Below.refl _ _).alloc (Nat.le_refl _) _ | exact ((Below.refl _ _).alloc (Nat.le_refl _) _).drew)); rintro e w1 ⟨rfl, hw1⟩; have hx : w1.heap[w.heap.size]? = some (.cells #[.int .i64 op, .int .i64 a, .int .i64 b, .int .i64 c] 29 (0, 0)) := (by rw [hw1]; exact (Below.heap_alloc _ _ _ (by simp)).trans (MapKept.heap_alloc w _).1); have hB : Below w.heap.size w w1 := (by rw [hw1]; exact Below.alloc (by first | exact (Below.refl _ _).alloc (Nat.le_refl _) _ | exact ((Below.refl _ _).alloc (Nat.le_refl _) _).drew) (by simp) _); have k0 : w1.cell? ⟨w.heap.size, 0, none⟩ = some (.int .i64 op) := (by rw [Lib.cell_of_heap hx]; rfl); have HB := Lib.hid hB; clear hw1 hx hB)
      | (go_at_call 20; refine (HO.out _).mono ?_; rintro e w2 ⟨rfl, hw2⟩; rw [hw2]; clear hw2))
  all_goals go_wp2
  all_goals go_ret
  all_goals exact ⟨rfl, HB.out⟩

theorem out_reg (n : Int) (has : Bool) : (!(decide (n < 0) || decide ((if has then (7 : Int) else 0) < n))) = regB n has := by
  cases has
  · by_cases h : n = 0
    · subst h; rfl
    · simp only [regB, Bool.false_eq_true, if_false, h, decide_false]
      by_cases h2 : n < 0
      · simp [h2]
      · have : 0 < n := by omega
        simp [this]
  · simp only [regB, if_true]
    by_cases h : n < 0
    · have : ¬ (0 ≤ n) := by omega
      simp [h, this]
    · have h0 : 0 ≤ n := by omega
      by_cases h2 : 7 < n
      · have : ¬ (n < 8) := by omega
        simp [h2, this]
      · have : n < 8 := by omega
        simp [h, h2, h0, this]
theorem rcheck_any (op a b c : Int) (w : World) (hl : LaidW w) :
    Calls Tryd.prog 25 #[.agg #[.int .i64 op, .int .i64 a, .int .i64 b, .int .i64 c]] w fun e w' => e = .returned (.int .i64 (chkE (chk op a b c))) ∧ Below w.heap.size w w' := by
  by_cases h : op < 0 ∨ 23 ≤ op
  · have e : shapeOf op = none := by
      unfold shapeOf
      split
      · exact List.getElem?_eq_none (by simp [shapeTab]; omega)
      · rfl
    have e2 : chk op a b c = false := by simp [chk, e]
    rw [e2]
    exact rcheck_no op a b c h w hl
  · obtain ⟨n, rfl⟩ : ∃ n : Nat, op = (n : Int) := ⟨op.toNat, by omega⟩
    have hn : n < 23 := by omega
    obtain ⟨_, f2, f3, f4, f5, f6, f7, f8⟩ := rows_fit ⟨n, hn⟩
    have hs : (shapeOf (n : Int)).isSome = true := by
      unfold shapeOf
      rw [if_pos (by omega)]
      simp [shapeTab]; omega
    refine rcheck_walk n hn a b c _ (row_some n hn) f3 _ rfl (row_words n hn) f4 f2 _ rfl w hl _ ?_
    simp only at f5 f6 f7 f8
    rw [f5, f6, f7, f8, out_reg, out_reg]
    unfold chk
    rw [hs, Bool.true_and, Bool.and_assoc (regB a _ && regB b _)]
    congr 1
    by_cases h1 : loC ((shapeOf (n : Int)).getD noShape).c ≤ c
    · have n1 : ¬ (c < loC ((shapeOf (n : Int)).getD noShape).c) := by omega
      by_cases h2 : c ≤ hiC ((shapeOf (n : Int)).getD noShape).c
      · have n2 : ¬ (hiC ((shapeOf (n : Int)).getD noShape).c < c) := by omega
        simp [h1, h2, n1, n2]
      · have n2 : hiC ((shapeOf (n : Int)).getD noShape).c < c := by omega
        simp [h1, h2, n1, n2]
    · have n1 : c < loC ((shapeOf (n : Int)).getD noShape).c := by omega
      simp [h1, n1]
end Go.Proofs.YtljjdkjmciheeaaDoor.P
