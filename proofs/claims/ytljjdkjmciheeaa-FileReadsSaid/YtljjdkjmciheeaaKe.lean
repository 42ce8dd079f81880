/- The contract of the reference's FileRead, in the printer's form. -/
import Derived.Test.YtljjdkjmciheeaaKd
namespace Go.Proofs.Ytljjdkjmciheeaa.P
open Go.RowKit Go.Proofs.YtljjdkjmciheeaaW.PrintWords Go.Proofs.YtljjdkjmciheeaaW.PrintLast Go.Proofs.YtljjdkjmciheeaaW.PrintMore
set_option linter.unusedVariables false

theorem custodianref_FileRead.calls (a0 : ByteArray) (r1 : List Int) (r2 : List Int) (r3 : List (S57)) (r4 : List (S59)) (r5 : Int) (w : World) (h : custodianref_FileRead.f a0 = some (r1, r2, r3, r4, r5)) :
    Calls Try.prog 9 #[.string a0] w fun e w' => ∃ v0_ v1_ v2_ v3_ : Value, e = .returned (.tuple #[.agg #[v0_, v1_, v2_, v3_], .int .i64 r5]) ∧ Kd.R (Kd.int .i64) 3 w' w.heap.size (fun k_ => some k_ ≠ (v1_ : Value).ownBlock) v0_ r1 ∧ Kd.R (Kd.int .i64) 3 w' w.heap.size (fun k_ => some k_ ≠ (v0_ : Value).ownBlock) v1_ r2 ∧ Kd.R k57 57 w' w.heap.size (fun _ => True) v2_ r3 ∧ Kd.R k59 59 w' w.heap.size (fun _ => True) v3_ r4 ∧ Below w.heap.size w w' := by
  show Calls Try.prog 9 #[.string a0] w (ReadPost w r1 r2 r3 r4 r5)
  unfold custodianref_FileRead.f at h
  by_cases c1 : (a0.size : Int) > 4000
  · rw [if_pos c1] at h
    simp only [Option.some.injEq, Prod.mk.injEq] at h
    obtain ⟨rfl, rfl, rfl, rfl, rfl⟩ := h
    exact fileRead_large a0 w c1
  · rw [if_neg c1] at h
    by_cases c2 : (a0.size : Int) < 9
    · rw [if_pos c2] at h
      simp only [Option.some.injEq, Prod.mk.injEq] at h
      obtain ⟨rfl, rfl, rfl, rfl, rfl⟩ := h
      exact fileRead_short a0 w c2
    · rw [if_neg c2] at h
      by_cases c3 : (a0.extract (a0.size - 2) a0.size).toList = (tailB a0).toList
      · rw [if_pos c3] at h
        have hg := fileRead_go a0 w (by omega) (by omega) c3 _ _ _ _ ⟨rfl⟩ ⟨rfl⟩ ⟨rfl⟩ ⟨rfl⟩
        by_cases c4 : readErr a0 = 0
        · rw [if_pos c4] at h
          simp only [Option.some.injEq, Prod.mk.injEq] at h
          obtain ⟨rfl, rfl, rfl, rfl, rfl⟩ := h
          exact hg.mono fun e w' hp => hp.1 c4
        · rw [if_neg c4] at h
          simp only [Option.some.injEq, Prod.mk.injEq] at h
          obtain ⟨rfl, rfl, rfl, rfl, rfl⟩ := h
          exact hg.mono fun e w' hp => hp.2 c4
      · rw [if_neg c3] at h
        simp only [Option.some.injEq, Prod.mk.injEq] at h
        obtain ⟨rfl, rfl, rfl, rfl, rfl⟩ := h
        exact fileRead_sum a0 w (by omega) (by omega) c3

end Go.Proofs.Ytljjdkjmciheeaa.P
