/- The contract of the reference's FileRead, by hand: the closure that takes bytes. -/
import Derived.Test.YtljjdkjmciheeaaPy5
import Derived.Test.YtljjdkjmciheeaaJc
import Derived.Deep.RegionHeld3
namespace Go.Proofs.Ytljjdkjmciheeaa.P
open Go.RowKit Go.Proofs.YtljjdkjmciheeaaW.PrintWords Go.Proofs.YtljjdkjmciheeaaW.PrintLast Go.Proofs.YtljjdkjmciheeaaW.PrintMore
set_option linter.unusedVariables false

/-- What 'take' gives, and what is left. -/
def takeT (n : Int) (s : ByteArray) : ByteArray := if (s.size : Int) < n then ⟨#[]⟩ else s.extract 0 n.toNat
def takeL (n : Int) (s : ByteArray) : ByteArray := if (s.size : Int) < n then ⟨#[]⟩ else s.extract n.toNat s.size

set_option maxHeartbeats 2000000 in
theorem take_any (n : Int) (h0 : 0 ≤ n) (g : Nat) (s : ByteArray) (w : World) (hb : w.heap[g]? = some (.cells #[.string s] 9 (0, 0))) :
    Calls Try.prog 26 #[.int .i64 n, .pointer (some ⟨g, 0, none⟩)] w fun e w' => e = .returned (.string (takeT n s)) ∧ w.setCell ⟨g, 0, none⟩ (.string (takeL n s)) = w' := by
  have hc := blk_cell hb 0
  have hf := blk_frozen hb 0
  simp at hc
  by_cases h : (s.size : Int) < n
  · have e1 : takeT n s = ⟨#[]⟩ := by unfold takeT; rw [if_pos h]
    have e2 : takeL n s = ⟨#[]⟩ := by unfold takeL; rw [if_pos h]
    rw [e1, e2]
    clear e1 e2 hb
    go_enter Try.func26, Try.ntmps26
    go_wp2
    go_ret
    exact ⟨rfl, rfl⟩
  · have e1 : takeT n s = s.extract 0 n.toNat := by unfold takeT; rw [if_neg h]
    have e2 : takeL n s = s.extract n.toNat s.size := by unfold takeL; rw [if_neg h]
    rw [e1, e2]
    have h1 : n ≤ (s.size : Int) := by omega
    clear e1 e2 hb
    go_enter Try.func26, Try.ntmps26
    go_wp2
    go_ret
    exact ⟨rfl, rfl⟩

end Go.Proofs.Ytljjdkjmciheeaa.P
