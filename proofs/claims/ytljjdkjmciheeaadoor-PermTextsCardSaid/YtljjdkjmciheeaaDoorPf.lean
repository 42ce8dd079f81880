/- The law PermTexts: what it returns. -/
import Derived.Test.YtljjdkjmciheeaaDoorPe
namespace Go.Proofs.YtljjdkjmciheeaaDoor.P
open Go.RowKit Go.Lib

theorem permRead_val (s : ByteArray) : ∃ k c : Int, ∀ e, PermReadPost s e → e = .returned (.tuple #[.int .i64 k, .int .i64 c]) := by
  by_cases h : ∃ q : Nat, q < 128 ∧ permText q = s
  · obtain ⟨q, hq, hs⟩ := h
    by_cases h2 : ∃ k : Nat, k < 128 ∧ permText k = s ∧ ∀ r : Nat, r < k → permText r ≠ s
    · obtain ⟨k, hk, hks, hmin⟩ := h2
      refine ⟨k, 0, fun e he => ?_⟩
      rcases he with ⟨k', hk', hks', hmin', rfl⟩ | ⟨hno, _⟩
      · have : k' = k := by
          rcases Nat.lt_trichotomy k' k with hlt | heq | hgt
          · exact absurd hks' (hmin _ hlt)
          · exact heq
          · exact absurd hks (hmin' _ hgt)
        rw [this]
      · exact absurd hks (hno k hk)
    · refine ⟨0, 0, fun e he => ?_⟩
      rcases he with ⟨k', hk', hks', hmin', _⟩ | ⟨hno, _⟩
      · exact absurd ⟨k', hk', hks', hmin'⟩ h2
      · exact absurd hs (hno q hq)
  · refine ⟨0, 3, fun e he => ?_⟩
    rcases he with ⟨k', hk', hks', hmin', _⟩ | ⟨hno, he⟩
    · exact absurd ⟨k', hk', hks'⟩ h
    · exact he

theorem ptexts_any (p : Int) : ∃ (t : ByteArray) (c : Int), (∀ w, Calls Tryd.prog 7 #[.int .i64 p] w fun e w' => e = .returned (.tuple #[.string t, .int .i64 c]) ∧ Below w.heap.size w w') ∧
    (∀ w, Calls Tryd.prog 8 #[.int .i64 p] w fun e w' => e = .returned (.tuple #[.string t, .int .i64 c]) ∧ Below w.heap.size w w') := by
  by_cases h : 0 ≤ p ∧ p ≤ 127
  · exact ⟨_, _, fun w => ptext_in p h.1 h.2 w, fun w => rperm_in p h.1 h.2 w⟩
  · exact ⟨_, _, fun w => ptext_out p (by omega) w, fun w => rperm_out p (by omega) w⟩

set_option maxHeartbeats 1000000 in
set_option maxRecDepth 100000 in
theorem law_any (p : Int) (s : ByteArray) (hs : s.size ≤ 140737488355328) (w : World) :
    Calls Tryd.prog 3 #[.int .i64 p, .string s] w fun e w' => e = .returned (.bool true) ∧ Below w.heap.size w w' := by
  obtain ⟨t, c, c7, c8⟩ := ptexts_any p
  obtain ⟨k, d, hv⟩ := permRead_val s
  have c9 : ∀ w, Calls Tryd.prog 9 #[.string s] w fun e w' => e = .returned (.tuple #[.int .i64 k, .int .i64 d]) ∧ Below w.heap.size w w' := fun w => (pread_any s hs w).mono fun e w' ⟨he, hb⟩ => ⟨hv e he, hb⟩
  have c10 : ∀ w, Calls Tryd.prog 10 #[.string s] w fun e w' => e = .returned (.tuple #[.int .i64 k, .int .i64 d]) ∧ Below w.heap.size w w' := fun w => (rread_any s w).mono fun e w' ⟨he, hb⟩ => ⟨hv e he, hb⟩
  have C7 := Lib.hid c7
  have C8 := Lib.hid c8
  have C9 := Lib.hid c9
  have C10 := Lib.hid c10
  clear c7 c8 c9 c10 hv
  go_enter Tryd.func3, Tryd.ntmps3
  go_wp2_with (first
    | (go_at_call 7; refine (C7.out _).mono ?_; rintro e w1 ⟨rfl, hb1⟩)
    | (go_at_call 8; refine (C8.out _).mono ?_; rintro e w2 ⟨rfl, hb2⟩)
    | (go_at_call 9; refine (C9.out _).mono ?_; rintro e w3 ⟨rfl, hb3⟩)
    | (go_at_call 10; refine (C10.out _).mono ?_; rintro e w4 ⟨rfl, hb4⟩))
  go_ret
  exact ⟨rfl, hb1.trans ((hb2.mono hb1.size).trans ((hb3.mono (Nat.le_trans hb1.size hb2.size)).trans (hb4.mono (Nat.le_trans hb1.size (Nat.le_trans hb2.size hb3.size)))))⟩
end Go.Proofs.YtljjdkjmciheeaaDoor.P
