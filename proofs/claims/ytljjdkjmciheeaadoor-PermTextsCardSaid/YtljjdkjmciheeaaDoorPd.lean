/- The reference's PermRead. -/
import Derived.Test.YtljjdkjmciheeaaDoorPc
namespace Go.Proofs.YtljjdkjmciheeaaDoor.P
open Go.RowKit Go.Lib

theorem toList_eq {a b : ByteArray} (h : (a.toList == b.toList) = true) : a = b := by
  have h1 : a.toList = b.toList := by simpa using h
  rw [Lib.toList_data, Lib.toList_data] at h1
  exact ByteArray.ext (Array.toList_inj.1 h1)
def PermReadPost (s : ByteArray) (e : Ending) : Prop :=
  (∃ k : Nat, k < 128 ∧ permText k = s ∧ (∀ q : Nat, q < k → permText q ≠ s) ∧ e = .returned (.tuple #[.int .i64 k, .int .i64 0])) ∨
  ((∀ q : Nat, q < 128 → permText q ≠ s) ∧ e = .returned (.tuple #[.int .i64 0, .int .i64 3]))

set_option maxHeartbeats 2000000 in
set_option maxRecDepth 100000 in
theorem rread_any (s : ByteArray) (w : World) :
    Calls Tryd.prog 10 #[.string s] w fun e w' => PermReadPost s e ∧ Below w.heap.size w w' := by
  go_enter Tryd.func10, Tryd.ntmps10
  go_wp2
  go_loopg [4, 5, 6, 7, 8, 9, 10, 11, 12, 13, 14, 15, 16, 17, 18, 19] 128 (fun gk _ _ _ s7 _ _ _ _ _ _ _ _ _ _ _ _ wx => ∃ k : Nat, s7 = .int .i64 k ∧ k ≤ 128 ∧ 128 ≤ k + gk ∧ Hid (∀ q : Nat, q < k → permText q ≠ s) ∧ Below w.heap.size w wx)
  case atStart => exact ⟨0, rfl, by omega, by omega, fun q hq => by omega, Below.refl _ w⟩
  case round =>
    obtain ⟨k, rfl, hk, hfu, hq, hbw⟩ := hrel
    by_cases hlt : k < 128
    · obtain ⟨g', rfl⟩ : ∃ g', gk = g' + 1 := ⟨gk - 1, by omega⟩
      go_wp2_with (go_at_call 8; refine (rperm_in _ (by omega) (by omega) _).mono ?_; rintro e w' ⟨rfl, hb⟩)
      · have he : ((permText k).toList == s.toList) = true := by assumption
        go_ret2
        exact ⟨.inl ⟨k, hlt, toList_eq he, hq.out, rfl⟩, hbw.trans (hb.mono hbw.size)⟩
      · have he : ((permText k).toList == s.toList) = false := by assumption
        have hq' : Hid (∀ q : Nat, q < k + 1 → permText q ≠ s) := by
          intro q hq1 he2
          by_cases h : q < k
          · exact hq.out q h he2
          · obtain rfl : q = k := by omega
            rw [he2] at he
            simp at he
        clear he
        go_roundg g'
        case measure => omega
        case rel => exact ⟨k + 1, by first | rfl | go_num, by omega, by omega, hq', hbw.trans (hb.mono hbw.size)⟩
    · go_wp2
      go_ret2
      have : k = 128 := by omega
      subst this
      exact ⟨.inr ⟨hq.out, rfl⟩, hbw⟩
end Go.Proofs.YtljjdkjmciheeaaDoor.P
