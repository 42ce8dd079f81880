/- file.Read of a text of fewer than nine bytes: ErrShort. -/
import Derived.Test.YtljjdkjmciheeaaFf
namespace Go.Proofs.Ytljjdkjmciheeaa.P
open Go.RowKit Go.Proofs.YtljjdkjmciheeaaW.PrintWords Go.Proofs.YtljjdkjmciheeaaW.PrintLast Go.Proofs.YtljjdkjmciheeaaW.PrintMore
set_option linter.unusedVariables false

def file_Read.f (a0 : ByteArray) : Option (List Int × List Int × List S57 × List S59 × Int) := if a0.size < 9 then some ([], [], [], [], 4) else none
set_option maxHeartbeats 2000000 in
set_option maxRecDepth 100000 in
theorem file_Read.calls (a0 : ByteArray) (r1 : List Int) (r2 : List Int) (r3 : List (S57)) (r4 : List (S59)) (r5 : Int) (w : World) (h : file_Read.f a0 = some (r1, r2, r3, r4, r5)) :
    Calls Try.prog 8 #[.string a0] w fun e w' => ∃ v0_ v1_ v2_ v3_ : Value, e = .returned (.tuple #[.agg #[v0_, v1_, v2_, v3_], .int .i64 r5]) ∧ Kd.R (Kd.int .i64) 3 w' w.heap.size (fun k_ => some k_ ≠ (v1_ : Value).ownBlock) v0_ r1 ∧ Kd.R (Kd.int .i64) 3 w' w.heap.size (fun k_ => some k_ ≠ (v0_ : Value).ownBlock) v1_ r2 ∧ Kd.R k57 57 w' w.heap.size (fun _ => True) v2_ r3 ∧ Kd.R k59 59 w' w.heap.size (fun _ => True) v3_ r4 ∧ Below w.heap.size w w' := by
  unfold file_Read.f at h
  split at h
  · rename_i h9
    have h := Option.some.inj h
    simp only [Prod.mk.injEq] at h
    obtain ⟨rfl, rfl, rfl, rfl, rfl⟩ := h
    have h1 : ¬ (4000 : Int) < (a0.size : Int) := by omega
    have h2 : (a0.size : Int) < 9 := by omega
    clear h9
    go_enter Try.func8, Try.ntmps8
    go_wp2
    exact bodyPost_ret (v := .tuple #[.agg #[.slice none 0 0, .slice none 0 0, .slice none 0 0, .slice none 0 0], .int .i64 4]) (by simp [results, Try.results8, go_sem]) rfl
      ⟨_, _, _, _, rfl, Kd.R_nil _ _ _ _ _, Kd.R_nil _ _ _ _ _, Kd.R_nil _ _ _ _ _, Kd.R_nil _ _ _ _ _, (Below.refl _ _).alloc (Nat.le_refl _) _⟩
  · cases h

end Go.Proofs.Ytljjdkjmciheeaa.P
