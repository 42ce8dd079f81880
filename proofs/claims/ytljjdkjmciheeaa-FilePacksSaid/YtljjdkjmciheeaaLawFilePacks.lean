/- Proved: for every module the law FilePacks returns true: the program's Pack and the reference's FilePack give the same bytes and the same error, and Read of an empty text is ErrShort. No conditions. -/
import Derived.Test.YtljjdkjmciheeaaRows
import Derived.Test.YtljjdkjmciheeaaHc
import Derived.Test.YtljjdkjmciheeaaRd
namespace Go.Proofs.Ytljjdkjmciheeaa.filePacks
open Go.ChangeShapes Go.WideShapes Go.ChangeAt Go.RowKit Go.Proofs.Ytljjdkjmciheeaa.P Go.Proofs.Ytljjdkjmciheeaa.Rd Go.Proofs.YtljjdkjmciheeaaW.PrintWords
set_option linter.unusedVariables false
theorem own : ownKnob Try.prog.godebug = none := by kernel_rfl
theorem laidOut : laidOutB Try.prog = true := by kernel_rfl
theorem cells3 : Try.prog.cellsOf 3 = 1 := by kernel_rfl
theorem cells9 : Try.prog.cellsOf 9 = 1 := by kernel_rfl
theorem cells22 : Try.prog.cellsOf 22 = 1 := by kernel_rfl
theorem cells23 : Try.prog.cellsOf 23 = 1 := by kernel_rfl
theorem cells24 : Try.prog.cellsOf 24 = 1 := by kernel_rfl
theorem cells57 : Try.prog.cellsOf 57 = 2 := by kernel_rfl
theorem cells59 : Try.prog.cellsOf 59 = 2 := by kernel_rfl
theorem cells26 : Try.prog.cellsOf 26 = 4 := by kernel_rfl
theorem r3 : Reads Try.prog 3 (Kd.int .i64) := reads_int Try.underlying3
theorem r9 : Reads Try.prog 9 Kd.string := reads_string Try.underlying9
theorem r22 : Reads Try.prog 22 (Kd.slice 3 (Kd.int .i64)) := reads_slice Try.underlying22 cells3 r3
theorem r57 : Reads Try.prog 57 k57 := by
  refine reads_iso (fun a => (⟨a.1, a.2⟩ : S57)) (fun _ => rfl) ?_
  refine reads_struct Try.underlying57 cells57 ?_
  refine readsAt_cons rfl ?_ ?_ ?_
  · exact cells9
  · exact r9
  refine readsAt_one rfl ?_ ?_
  · exact cells3
  · exact r3
theorem r59 : Reads Try.prog 59 k59 := by
  refine reads_iso (fun a => (⟨a.1, a.2⟩ : S59)) (fun _ => rfl) ?_
  refine reads_struct Try.underlying59 cells59 ?_
  refine readsAt_cons rfl ?_ ?_ ?_
  · exact cells9
  · exact r9
  refine readsAt_one rfl ?_ ?_
  · exact cells3
  · exact r3
theorem r23 : Reads Try.prog 23 (Kd.slice 57 k57) := reads_slice Try.underlying23 cells57 r57
theorem r24 : Reads Try.prog 24 (Kd.slice 59 k59) := reads_slice Try.underlying24 cells59 r59
theorem r26 : Reads Try.prog 26 (Kd.pair (Kd.slice 3 (Kd.int .i64)) (Kd.pair (Kd.slice 3 (Kd.int .i64)) (Kd.pair (Kd.slice 57 k57) (Kd.slice 59 k59)))) :=
  by
  refine reads_struct Try.underlying26 cells26 ?_
  refine readsAt_cons rfl ?_ ?_ ?_
  · exact cells22
  · exact r22
  refine readsAt_cons rfl ?_ ?_ ?_
  · exact cells22
  · exact r22
  refine readsAt_cons rfl ?_ ?_ ?_
  · exact cells23
  · exact r23
  refine readsAt_one rfl ?_ ?_
  · exact cells24
  · exact r24

set_option maxRecDepth 100000 in
theorem lifted (os : Os) (started : os.Started) (H : Type) (enc : TypeId × Value → H) :
    ReturnsInHanded {} Try.checked os 3 .any (Rows.filePacksSpec.pre6 enc Try.prog Try.f3 Rows.filePacksRow.domain false) (Rows.filePacksSpec.post enc Try.prog Try.f3 false true false false) := by
  refine returnsInHanded_of_change_sized (C := Try.checked) own started (by kernel_rfl) Try.func3
    (ChangeSpec.witness6 (enc := enc) (C := Try.checked) false ⟨#[], #[.agg #[.slice none 0 0, .slice none 0 0, .slice none 0 0, .slice none 0 0]], []⟩ 8 (by kernel_rfl) (by kernel_rfl) (by kernel_rfl) (by kernel_rfl)) ?_
  intro W base args ds gs before hval0 hW hcnd hsz0 _
  have hW' := hW
  obtain ⟨p, q, hA0, hV, rfl, hfz, hnd⟩ := hW
  have hA : DataW.TrodAll enc Try.prog W 0 (fun _ => true) true Try.f3.params.toList args.toList ds p := hA0
  rw [Try.params3] at hA
  obtain ⟨v0, vs0, d0, ds0, p0, q0, hargs, rfl, rfl, h0, r0⟩ := trodAll_cons hA
  obtain ⟨rfl, rfl, rfl⟩ := trodAll_nil r0
  obtain rfl : args = #[v0] := by cases args; simp_all
  obtain ⟨rfl, rfl⟩ := trodVars_none hV
  have k0 := h0
  have lt0 : ∀ x ∈ p0, x.block < W.heap.size := by obtain ⟨m, hm⟩ := k0; exact DataW.trod_lt m _ _ _ hm
  obtain ⟨fuel, hf⟩ := h0
  obtain ⟨⟨l0, l1, l2, l3⟩, ca, cb, e1, ⟨A0, c0, rfl, hc0, hr0⟩, cc, cd, rfl, ⟨A1, c1, rfl, hc1, hr1⟩, ce, cf, rfl, ⟨A2, c2, rfl, hc2, hr2⟩, ⟨A3, c3, rfl, hc3, hr3⟩⟩ := r26 hf
  obtain rfl := agg_of_cells e1 (by simp)
  clear hA0 hval0 hsz0 e1
  obtain ⟨k, hk⟩ := filePacks_pure l0 l1 l2 l3
  refine (custodianlaw_FilePacks.calls k A0 c0 l0 A1 c1 l1 A2 c2 l2 A3 c3 l3 true W hr0 hc0 hr1 hc1 hr2 hc2 hr3 hc3 hk).mono fun e W' ⟨he, bel⟩ => ?_
  subst he
  exact ⟨_, rfl, _, _, _, [], _, [], hW', trodAll_mk1 (shut_bool Try.underlying4 _), (trodAll_cons_mk (Below.trod laidOut (by kernel_rfl) (of_decide_eq_true (by kernel_rfl)) k0 bel lt0) trodAll_mk0), rfl, bel.frame _, fun h => by cases h⟩

theorem over : Rows.filePacksRow.holds Try.pinned (OpenSpec.ofChange Rows.filePacksSpec) :=
  OpenClaim.holds_of_wide 3 Try.f3 rfl rfl rfl rfl rfl rfl rfl ⟨rfl, rfl, rfl, rfl, rfl⟩ rfl rfl rfl rfl rfl (by kernel_rfl) Try.func3 (by kernel_rfl)
    (of_decide_eq_true (by kernel_rfl)) (by unfold Func.isWrapper; first | (rw [if_pos (by decide +kernel)]; kernel_rfl) | (rw [if_neg (by decide +kernel)]; exact ⟨rfl, rfl⟩))
    (fun os started H enc _ => lifted os started H enc)
theorem proved : Rows.FilePacksSaid := over
#print axioms proved
end Go.Proofs.Ytljjdkjmciheeaa.filePacks
namespace Go.Proofs.Ytljjdkjmciheeaa
/-- The row, under a short name, for the claim. -/
theorem filePacks_holds : Rows.FilePacksSaid := filePacks.proved
end Go.Proofs.Ytljjdkjmciheeaa
