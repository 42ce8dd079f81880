/- Proved: for every instruction the law InstTexts returns true: the program's Text and the reference's InstText give the same text and the same error. No conditions; the listed tables are tied to the program's text. -/
import Derived.Test.YtljjdkjmciheeaaDoorCards
import Derived.Test.YtljjdkjmciheeaaDoorTie
import Derived.Test.YtljjdkjmciheeaaDoorRf
import Derived.Test.YtljjdkjmciheeaaDoorWl
import Derived.WalkKit
import Derived.ProofKit
import Derived.OpenShut
import Derived.ShutString
import Derived.ChangeOld
import Derived.SizedLaws
import Derived.Deep.DeepHandedRow
import Derived.Deep.DeepWitnessRowRef
import Derived.LaidMore
import Derived.Carry
import Derived.Lib.LaidTab
import Derived.Stop.LaidErr
import Derived.MakeChecks
namespace Go.Proofs.YtljjdkjmciheeaaDoor.instTexts
open Go.ChangeShapes Go.WideShapes Go.ChangeAt Go.RowKit

theorem own : ownKnob Tryd.prog.godebug = none := by kernel_rfl
theorem cells29 : Tryd.prog.cellsOf 29 = 4 := by kernel_rfl
theorem cells5 : Tryd.prog.cellsOf 5 = 1 := by kernel_rfl
theorem cells96 : Tryd.prog.cellsOf 96 = 256 := by kernel_rfl
theorem tySpace : (Tryd.prog.globals[1]?).map (·.type) = some 96 := by kernel_rfl
theorem tyPow : (Tryd.prog.globals[7]?).map (·.type) = some 142 := by kernel_rfl
theorem cells142 : Tryd.prog.cellsOf 142 = 20 := by kernel_rfl
theorem cells119 : Tryd.prog.cellsOf 119 = 1 := by kernel_rfl

set_option maxRecDepth 1000000 in
/-- What the listed variables give the walks. -/
theorem laid_of {W : World} (h0 : laidMetH Tryd.prog Rows.instTextsRow.laid W) (hs : W.ShapedOpen Tryd.prog) : P.LaidW W := by
  have h : laidMet Tryd.prog Rows.instTextsRow.laid W := by rw [MakeChecks.laidMetH_plain _ _ _ (by kernel_rfl)] at h0; exact h0
  have ep : Rows.laid_internal_strconv_uint64pow10 (H := Unit) = Lib.tabData .u64 Lib.pow10Tab := by kernel_rfl
  have es : Rows.laid_strings_asciiSpace (H := Unit) = Lib.tabData .u8 Lib.asciiSpaceTab := by kernel_rfl
  unfold Rows.instTextsRow at h
  simp only [ep, es] at h
  have hp : laidMet Tryd.prog (("internal/strconv.uint64pow10", Lib.tabData .u64 Lib.pow10Tab) :: _) W := h.tail.tail
  have hq : laidMet Tryd.prog (("strings.asciiSpace", Lib.tabData .u8 Lib.asciiSpaceTab) :: _) W := h.tail.tail.tail.tail.tail
  obtain ⟨m, hm⟩ := Tryd.laysM146.s1_3 W hs
  exact ⟨⟨m, hm⟩, Lib.tabIs_of_head P.gSpace tySpace Tryd.underlying96 Tryd.underlying5 cells5 cells96 hq, Lib.tabIs_of_head P.gPow tyPow Tryd.underlying142 Tryd.underlying119 cells119 cells142 hp⟩

def zeroI : Value := .agg #[.int .i64 0, .int .i64 0, .int .i64 0, .int .i64 0]
set_option maxRecDepth 100000 in
theorem laid_met (os : Os) : laidMet Tryd.prog Rows.instTextsRow.laid ((Wl.laidWorld os).forCall (fun _ _ => 0) ⟨#[], #[zeroI], []⟩).memory :=
  Wl.laidMet_of_rows Wl.rows7 8 (by kernel_rfl) (by decide) (by kernel_rfl)
theorem reads (os : Os) {H : Type} (enc : TypeId × Value → H) : ∃ places, DataW.whole enc Tryd.prog ((Wl.laidWorld os).forCall (fun _ _ => 0) ⟨#[], #[zeroI], []⟩).memory Tryd.f4.params.toList Rows.instTextsSpec.vars false #[zeroI].toList 8 = some ([.agg [.lit (.int .i64 0), .lit (.int .i64 0), .lit (.int .i64 0), .lit (.int .i64 0)]], [], places) :=
  ⟨[], by kernel_rfl⟩

set_option maxRecDepth 100000 in
theorem lifted (os : Os) (started : os.Started) (H : Type) (enc : TypeId × Value → H) (F : Stop.Interp) :
    ReturnsInHanded {} Tryd.checked os 4 .any ((OpenSpec.ofChange Rows.instTextsSpec).preRow enc Tryd.prog Tryd.f4 Rows.instTextsRow.domain false Rows.instTextsRow.laid) (((OpenSpec.ofChange Rows.instTextsSpec).at F).post enc Tryd.prog Tryd.f4 false true false false) := by
  obtain ⟨places, hx⟩ := reads os enc
  refine returnsInHanded_of_row (C := Tryd.checked) (s := OpenSpec.ofChange Rows.instTextsSpec) own started (by kernel_rfl) Tryd.func4
    (witness_row_atRef (enc := enc) (C := Tryd.checked) false (Wl.laidWorld os) #[zeroI] rfl (by kernel_rfl) (by kernel_rfl) (by kernel_rfl)
      (OpenSpec.preRow_of_cond 8 hx (by kernel_rfl) (fun k hk => by cases hk) (by kernel_rfl) (laid_met os))) ?_
  intro W base args ds gs before hval0 hW _ _ _ hL hS _
  have hval : ∀ (j : Nat) t v, Tryd.f4.params[j]? = some t → args[j]? = some v → Value.okWide Tryd.prog W .any base t v := hval0
  have hW' := hW
  obtain ⟨p, q, hA0, hV, rfl, hfz, hnd⟩ := hW
  have hA : DataW.TrodAll enc Tryd.prog W 0 (fun _ => true) true Tryd.f4.params.toList args.toList ds p := hA0
  rw [Tryd.params4] at hA hval
  obtain ⟨v0, vs0, d0, ds0, p0, q0, hargs, rfl, rfl, h0, r0⟩ := trodAll_cons hA
  obtain ⟨rfl, rfl, rfl⟩ := trodAll_nil r0
  obtain rfl : args = #[v0] := by cases args; simp_all
  obtain ⟨rfl, rfl⟩ := trodVars_none hV
  obtain ⟨x0, x1, x2, x3, y0, y1, y2, y3, n, rfl, rfl, rfl, t0, t1, t2, t3⟩ := Joins.open_agg4 Tryd.underlying29 (by kernel_rfl) cells29 (hval 0 29 v0 rfl rfl) h0
  obtain ⟨a0, e0, rfl, b0⟩ := DataW.trod_int Tryd.underlying3 t0
  obtain ⟨a1, e1, rfl, b1⟩ := DataW.trod_int Tryd.underlying3 t1
  obtain ⟨a2, e2, rfl, b2⟩ := DataW.trod_int Tryd.underlying3 t2
  obtain ⟨a3, e3, rfl, b3⟩ := DataW.trod_int Tryd.underlying3 t3
  obtain rfl : x0 = .int .i64 a0 := by simpa using e0
  obtain rfl : x1 = .int .i64 a1 := by simpa using e1
  obtain rfl : x2 = .int .i64 a2 := by simpa using e2
  obtain rfl : x3 = .int .i64 a3 := by simpa using e3
  clear hA0 hval0
  refine (P.texts_law a0 a1 a2 a3 (bounds_i64 b1) (bounds_i64 b2) (bounds_i64 b3) W (laid_of hL hS)).mono fun e W' ⟨he, bel⟩ => ?_
  subst he
  exact ⟨_, rfl, _, _, _, [], _, [], hW', trodAll_mk1 (shut_bool Tryd.underlying4 _), (trodAll_cons_mk (Joins.shut_agg4 (y0 := (.lit (.int .i64 a0), [])) (y1 := (.lit (.int .i64 a1), [])) (y2 := (.lit (.int .i64 a2), [])) (y3 := (.lit (.int .i64 a3), [])) Tryd.underlying29 (by kernel_rfl) cells29 (shut_int Tryd.underlying3 b0) (shut_int Tryd.underlying3 b1) (shut_int Tryd.underlying3 b2) (shut_int Tryd.underlying3 b3)) trodAll_mk0), rfl, bel.frame _, fun h => by cases h⟩

theorem said : Rows.InstTextsSaid :=
  OpenClaim.holds_of_cond 4 Tryd.f4 rfl rfl rfl rfl rfl rfl rfl ⟨rfl, rfl, rfl, rfl, rfl⟩ rfl rfl rfl rfl rfl (by kernel_rfl) Tryd.func4 (by kernel_rfl)
    (of_decide_eq_true (by kernel_rfl)) (by unfold Func.isWrapper; first | (rw [if_pos (by decide +kernel)]; kernel_rfl) | (rw [if_neg (by decide +kernel)]; exact ⟨rfl, rfl⟩))
    (fun os started H enc _ F => by rw [OpenClaim.pre_eq_preRow]; exact lifted os started H enc F)

theorem plain (f : FuncId) (fn : Func) (hf : Tryd.pinned.checked.prog.funcNamed "custodian/custodianlaw.InstTexts" = some f) (hfn : Tryd.pinned.checked.prog.funcs[f]? = some fn) :
    true = Tryd.pinned.checked.prog.looks [] ∧ ∀ (j : Nat) t, fn.params[j]? = some t → Tryd.pinned.checked.prog.wantsStandIn t = false := by
  obtain rfl : f = 4 := Option.some.inj ((show Tryd.prog.funcNamed "custodian/custodianlaw.InstTexts" = some 4 by kernel_rfl).symm.trans hf) |>.symm
  obtain rfl : fn = Tryd.f4 := (Option.some.inj (Tryd.func4.symm.trans hfn)).symm
  refine ⟨by kernel_rfl, fun j t ht => ?_⟩
  rw [Tryd.params4] at ht
  have hm : t ∈ [29] := by simpa using Array.mem_of_getElem? ht
  have hall : ([29].all fun u => !Tryd.prog.wantsStandIn u) = true := by kernel_rfl
  exact (show Tryd.prog.wantsStandIn t = false by simpa using List.all_eq_true.1 hall t hm)

theorem card : Rows.InstTextsCardSaid :=
  Claim7.holds_tied_plain_at .later [] _ _ _ _ said (fun _ h => by cases h) (by kernel_rfl) (fun _ h => by cases h) instTexts_row_tie rfl ⟨rfl, rfl⟩ (by kernel_rfl) rfl plain (by kernel_rfl)
end Go.Proofs.YtljjdkjmciheeaaDoor.instTexts
namespace Go.Proofs.YtljjdkjmciheeaaDoor
/-- The card, under a short name, for the claim. -/
theorem instTexts_holds : Rows.InstTextsCardSaid := instTexts.card
#print axioms instTexts_holds
end Go.Proofs.YtljjdkjmciheeaaDoor
