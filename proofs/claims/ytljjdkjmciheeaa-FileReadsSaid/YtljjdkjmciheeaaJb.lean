/- Plain lemmas: the reference's ModuleCheck comes to modCheck. -/
import Derived.Test.YtljjdkjmciheeaaJa
namespace Go.Proofs.Ytljjdkjmciheeaa.P
open Go.RowKit Go.Proofs.YtljjdkjmciheeaaW.PrintWords Go.Proofs.YtljjdkjmciheeaaW.PrintLast Go.Proofs.YtljjdkjmciheeaaW.PrintMore
set_option linter.unusedVariables false

theorem hasS_go (l : List ByteArray) (x : ByteArray) (hl : l.length ≤ 1000) : ∀ (d i : Nat), i + d = l.length → Ev (fun k => custodianref_Has_string.l0 k x l (l.length : Int) (i : Int)) ((l.drop i).any fun y => x.toList == y.toList)
  | 0, i, hi => by
    refine Ev.step (fun k => by simp only [custodianref_Has_string.l0]; rw [if_neg (by omega)]) ?_
    rw [List.drop_eq_nil_of_le (by omega)]
    exact Ev.now _
  | d + 1, i, hi => by
    have hlt : i < l.length := by omega
    have ih := hasS_go l x hl d (i + 1) (by omega)
    have hw := wrap_next i l.length hlt (by omega)
    have hr : rdOf ByteArray.empty l (i : Int) = l[i] := by simp [rdOf, List.getElem?_eq_getElem hlt, List.getD_eq_getElem?_getD]
    rw [List.drop_eq_getElem_cons hlt, List.any_cons]
    refine Ev.step (fun k => by simp only [custodianref_Has_string.l0]; rw [if_pos (by omega), if_pos (by omega), if_pos (by omega), hw, hr]) ?_
    by_cases he : x.toList = l[i].toList
    · refine Ev.congr (fun k => by rw [if_pos he]) ?_
      rw [beq_iff_eq.2 he, Bool.true_or]
      exact Ev.now _
    · refine Ev.congr (fun k => by rw [if_neg he]) ?_
      rw [beq_eq_false_iff_ne.2 he, Bool.false_or]
      exact ih
theorem hasS_is (l : List ByteArray) (x : ByteArray) (hl : l.length ≤ 1000) : Ev (fun k => custodianref_Has_string.f k l x) (l.any fun y => x.toList == y.toList) := by
  have := hasS_go l x hl l.length 0 (by omega)
  simpa [custodianref_Has_string.f] using this
theorem hasI_go (l : List Int) (x : Int) (hl : l.length ≤ 1000) : ∀ (d i : Nat), i + d = l.length → Ev (fun k => custodianref_Has_int.l0 k x l (l.length : Int) (i : Int)) ((l.drop i).any fun y => x == y)
  | 0, i, hi => by
    refine Ev.step (fun k => by simp only [custodianref_Has_int.l0]; rw [if_neg (by omega)]) ?_
    rw [List.drop_eq_nil_of_le (by omega)]
    exact Ev.now _
  | d + 1, i, hi => by
    have hlt : i < l.length := by omega
    have ih := hasI_go l x hl d (i + 1) (by omega)
    have hw := wrap_next i l.length hlt (by omega)
    have hr : rd l (i : Int) = l[i] := by simp [rd, List.getElem?_eq_getElem hlt, List.getD_eq_getElem?_getD]
    rw [List.drop_eq_getElem_cons hlt, List.any_cons]
    refine Ev.step (fun k => by simp only [custodianref_Has_int.l0]; rw [if_pos (by omega), if_pos (by omega), if_pos (by omega), hw, hr]) ?_
    by_cases he : x = l[i]
    · refine Ev.congr (fun k => by rw [if_pos he]) ?_
      rw [beq_iff_eq.2 he, Bool.true_or]
      exact Ev.now _
    · refine Ev.congr (fun k => by rw [if_neg he]) ?_
      rw [beq_eq_false_iff_ne.2 he, Bool.false_or]
      exact ih
theorem hasI_is (l : List Int) (x : Int) (hl : l.length ≤ 1000) : Ev (fun k => custodianref_Has_int.f k l x) (l.any fun y => x == y) := by
  have := hasI_go l x hl l.length 0 (by omega)
  simpa [custodianref_Has_int.f] using this

def cellsOf (l : List S59) : List Int := l.flatMap fun y => [y.f1, y.f1 + 1]
theorem cellsOf_len (l : List S59) : (cellsOf l).length = 2 * l.length := by
  induction l with
  | nil => rfl
  | cons x l ih => unfold cellsOf at ih ⊢; rw [List.flatMap_cons, List.length_append, ih]; simp; omega
theorem near_cells (x : Int) (l : List S59) (hx : 0 ≤ x ∧ x ≤ 1000) (hl : ∀ y ∈ l, 0 ≤ y.f1 ∧ y.f1 ≤ 1000) :
    (((cellsOf l).any fun y => x == y) || ((cellsOf l).any fun y => x + 1 == y)) = l.any fun y => near x y.f1 := by
  induction l with
  | nil => rfl
  | cons y l ih =>
    have ih := ih (fun z hz => hl z (List.mem_cons_of_mem _ hz))
    have hy := hl y List.mem_cons_self
    have hn : near x y.f1 = ((x == y.f1) || ((x == y.f1 + 1) || ((x + 1 == y.f1) || (x + 1 == y.f1 + 1)))) := by
      unfold near wrap64
      rw [Bool.eq_iff_iff]
      simp only [decide_eq_true_eq, Bool.or_eq_true, beq_iff_eq]
      omega
    unfold cellsOf at ih ⊢
    show _ = (near x y.f1 || l.any fun y => near x y.f1)
    rw [List.flatMap_cons, List.any_append, List.any_append, hn, ← ih]
    simp only [List.any_cons, List.any_nil, Bool.or_false]
    cases (x == y.f1) <;> cases (x == y.f1 + 1) <;> cases (x + 1 == y.f1) <;> cases (x + 1 == y.f1 + 1) <;> simp

theorem mc_imps (l0 l1 : List Int) (l2 : List S57) (l3 : List S59) (h1 : l1.length ≤ 60) (h3 : l3.length ≤ 20) : ∀ (d i : Nat), i + d = l3.length → (∀ y ∈ l3.take i, 0 ≤ y.f1 ∧ y.f1 ≤ 1000) →
    Ev (fun k => custodianref_ModuleCheck.l2 k (cellsOf (l3.take i)) l3 (l3.length : Int) (i : Int) l0 l1 l2 l3) (impsGo l1.length (l3.take i) (l3.drop i))
  | 0, i, hi, hy => by
    refine Ev.step (fun k => by simp only [custodianref_ModuleCheck.l2]; rw [if_neg (by omega)]) ?_
    rw [List.drop_eq_nil_of_le (by omega)]
    exact Ev.now _
  | d + 1, i, hi, hy => by
    have hlt : i < l3.length := by omega
    have ih := mc_imps l0 l1 l2 l3 h1 h3 d (i + 1) (by omega)
    have hw := wrap_next i l3.length hlt (by omega)
    have hw2 : wrap64 ((l1.length : Int) - 2) = (l1.length : Int) - 2 := by unfold wrap64; omega
    have hat := rd_at_T59 l3 i hlt
    rw [List.getElem?_eq_getElem hlt] at hat
    have htk : l3.take (i + 1) = l3.take i ++ [rd_T59 l3 (i : Int)] := by rw [List.take_succ_eq_append_getElem hlt, Option.some.inj hat]
    rw [impsGo_at l1.length l3 i hlt]
    rw [htk] at ih ⊢
    refine Ev.step (fun k => by simp only [custodianref_ModuleCheck.l2]; rw [if_pos (by omega), if_pos (by omega), if_pos (by omega), hw, hw2]) ?_
    generalize rd_T59 l3 (i : Int) = x at ih ⊢
    refine Ev.bind (isName_is x.f0) ?_
    by_cases hn : nameB x.f0 = true
    · have hn' : ¬ nameB x.f0 = false := by rw [hn]; decide
      refine Ev.congr (fun k => by rw [if_pos hn, outside_is, Option.bind_some]) ?_
      by_cases hlo : x.f1 < 0
      · have hE : impErr l1.length (l3.take i) x = 13 := by unfold impErr; rw [if_neg hn', if_pos hlo]
        refine Ev.congr (fun k => by rw [if_pos (by simp [hlo])]) ?_
        rw [hE]
        exact Ev.now _
      · by_cases hhi : (l1.length : Int) - 2 < x.f1
        · have hE : impErr l1.length (l3.take i) x = 13 := by unfold impErr; rw [if_neg hn', if_neg hlo, if_pos hhi]
          refine Ev.congr (fun k => by rw [if_pos (by simp [hhi])]) ?_
          rw [hE]
          exact Ev.now _
        · have hx : 0 ≤ x.f1 ∧ x.f1 ≤ 1000 := by omega
          have hwx : wrap64 (x.f1 + 1) = x.f1 + 1 := by unfold wrap64; omega
          have hcl : (cellsOf (l3.take i)).length ≤ 1000 := by rw [cellsOf_len]; have : (l3.take i).length ≤ l3.length := List.length_take_le' _ _; omega
          refine Ev.congr (fun k => by rw [if_neg (by simp; omega), hwx]) ?_
          have hnr := near_cells x.f1 (l3.take i) hx hy
          refine Ev.bind (hasI_is (cellsOf (l3.take i)) x.f1 hcl) ?_
          cases ha : (cellsOf (l3.take i)).any (fun y => x.f1 == y) with
          | true =>
            rw [ha, Bool.true_or] at hnr
            have hE : impErr l1.length (l3.take i) x = 8 := by unfold impErr; rw [if_neg hn', if_neg hlo, if_neg hhi, if_pos hnr.symm]
            refine Ev.congr (fun k => by rw [if_pos rfl]) ?_
            rw [hE]
            exact Ev.now _
          | false =>
            rw [ha, Bool.false_or] at hnr
            refine Ev.congr (fun k => by rw [if_neg (by decide)]) ?_
            refine Ev.bind (hasI_is (cellsOf (l3.take i)) (x.f1 + 1) hcl) ?_
            cases hb : (cellsOf (l3.take i)).any (fun y => x.f1 + 1 == y) with
            | true =>
              rw [hb] at hnr
              have hE : impErr l1.length (l3.take i) x = 8 := by unfold impErr; rw [if_neg hn', if_neg hlo, if_neg hhi, if_pos hnr.symm]
              refine Ev.congr (fun k => by rw [if_pos rfl]) ?_
              rw [hE]
              exact Ev.now _
            | false =>
              rw [hb] at hnr
              have hE : impErr l1.length (l3.take i) x = 0 := by unfold impErr; rw [if_neg hn', if_neg hlo, if_neg hhi, if_neg (by rw [← hnr]; decide)]
              refine Ev.congr (fun k => by rw [if_neg (by decide), Option.bind_some, if_pos (by rw [cellsOf_len]; have : (l3.take i).length ≤ l3.length := List.length_take_le' _ _; simp; omega)]) ?_
              rw [hE, if_pos rfl]
              have := ih (fun y hy2 => by
                rcases List.mem_append.1 hy2 with h | h
                · exact hy y h
                · rw [List.mem_singleton.1 h]; exact hx)
              have he : cellsOf (l3.take i ++ [x]) = cellsOf (l3.take i) ++ [x.f1, x.f1 + 1] := by unfold cellsOf; rw [List.flatMap_append]; simp
              rw [he] at this
              exact this
    · have hE : impErr l1.length (l3.take i) x = 3 := by unfold impErr; rw [if_pos (show nameB x.f0 = false by simpa using hn)]
      refine Ev.congr (fun k => by rw [if_neg hn]) ?_
      rw [hE]
      exact Ev.now _

theorem mc_exps (l0 l1 : List Int) (l2 : List S57) (l3 : List S59) (h0 : l0.length ≤ 120) (h1 : l1.length ≤ 60) (h2 : l2.length ≤ 20) (h3 : l3.length ≤ 20) : ∀ (d i : Nat), i + d = l2.length →
    Ev (fun k => custodianref_ModuleCheck.l1 k ((l2.take i).map (·.f0)) l2 (l2.length : Int) (i : Int) l0 l1 l2 l3) (if expsGo l0.length (l2.take i) (l2.drop i) = 0 then impsGo l1.length [] l3 else expsGo l0.length (l2.take i) (l2.drop i))
  | 0, i, hi => by
    refine Ev.step (fun k => by simp only [custodianref_ModuleCheck.l1]; rw [if_neg (by omega)]) ?_
    rw [List.drop_eq_nil_of_le (by omega)]
    have := mc_imps l0 l1 l2 l3 h1 h3 l3.length 0 (by omega) (by simp)
    simpa [expsGo, cellsOf] using this
  | d + 1, i, hi => by
    have hlt : i < l2.length := by omega
    have ih := mc_exps l0 l1 l2 l3 h0 h1 h2 h3 d (i + 1) (by omega)
    have hw := wrap_next i l2.length hlt (by omega)
    have hw2 : wrap64 ((l0.length : Int) - 1) = (l0.length : Int) - 1 := by unfold wrap64; omega
    have hat := rd_at_T57 l2 i hlt
    rw [List.getElem?_eq_getElem hlt] at hat
    have htk : l2.take (i + 1) = l2.take i ++ [rd_T57 l2 (i : Int)] := by rw [List.take_succ_eq_append_getElem hlt, Option.some.inj hat]
    rw [expsGo_at l0.length l2 i hlt]
    rw [htk] at ih ⊢
    refine Ev.step (fun k => by simp only [custodianref_ModuleCheck.l1]; rw [if_pos (by omega), if_pos (by omega), if_pos (by omega), hw, hw2]) ?_
    generalize rd_T57 l2 (i : Int) = x at ih ⊢
    have hlen : ((l2.take i).map (·.f0)).length ≤ 1000 := by rw [List.length_map]; have : (l2.take i).length ≤ l2.length := List.length_take_le' _ _; omega
    refine Ev.bind (isName_is x.f0) ?_
    by_cases hn : nameB x.f0 = true
    · have hn' : ¬ nameB x.f0 = false := by rw [hn]; decide
      refine Ev.congr (fun k => by rw [if_pos hn]) ?_
      refine Ev.bind (hasS_is ((l2.take i).map (·.f0)) x.f0 hlen) ?_
      have hany : (((l2.take i).map (·.f0)).any fun y => x.f0.toList == y.toList) = (l2.take i).any fun y => y.f0.toList == x.f0.toList := by
        rw [List.any_map]
        congr 1
        funext y
        exact Bool.beq_comm
      rw [hany]
      cases ha : (l2.take i).any (fun y => y.f0.toList == x.f0.toList) with
      | true =>
        have hE : expErr l0.length (l2.take i) x = 8 := by unfold expErr; rw [if_neg hn', if_pos ha]
        refine Ev.congr (fun k => by rw [if_pos rfl]) ?_
        rw [hE]
        exact Ev.now _
      | false =>
        have ha' : ¬ ((l2.take i).any (fun y => y.f0.toList == x.f0.toList)) = true := by rw [ha]; decide
        refine Ev.congr (fun k => by rw [if_neg (by decide), if_pos (by omega), outside_is, Option.bind_some]) ?_
        by_cases hlo : x.f1 < 0
        · have hE : expErr l0.length (l2.take i) x = 13 := by unfold expErr; rw [if_neg hn', if_neg ha', if_pos hlo]
          refine Ev.congr (fun k => by rw [if_pos (by simp [hlo])]) ?_
          rw [hE]
          exact Ev.now _
        · by_cases hhi : (l0.length : Int) ≤ x.f1
          · have hE : expErr l0.length (l2.take i) x = 13 := by unfold expErr; rw [if_neg hn', if_neg ha', if_neg hlo, if_pos hhi]
            refine Ev.congr (fun k => by rw [if_pos (by simp; omega)]) ?_
            rw [hE]
            exact Ev.now _
          · have hE : expErr l0.length (l2.take i) x = 0 := by unfold expErr; rw [if_neg hn', if_neg ha', if_neg hlo, if_neg hhi]
            refine Ev.congr (fun k => by rw [if_neg (by simp; omega)]) ?_
            rw [hE, if_pos rfl]
            rw [List.map_append, List.map_cons, List.map_nil] at ih
            exact ih
    · have hE : expErr l0.length (l2.take i) x = 3 := by unfold expErr; rw [if_pos (show nameB x.f0 = false by simpa using hn)]
      refine Ev.congr (fun k => by rw [if_neg hn]) ?_
      rw [hE]
      exact Ev.now _

theorem mc_nums (l0 l1 : List Int) (l2 : List S57) (l3 : List S59) (h0 : l0.length ≤ 120) (h1 : l1.length ≤ 60) (h2 : l2.length ≤ 20) (h3 : l3.length ≤ 20) (l : List Int) (hl : l.length ≤ 1000) : ∀ (d i : Nat), i + d = l.length →
    Ev (fun k => custodianref_ModuleCheck.l0 k l (l.length : Int) (i : Int) l0 l1 l2 l3) (if (l.drop i).all in32 = true then (if expsGo l0.length [] l2 = 0 then impsGo l1.length [] l3 else expsGo l0.length [] l2) else 1)
  | 0, i, hi => by
    refine Ev.step (fun k => by simp only [custodianref_ModuleCheck.l0]; rw [if_neg (by omega)]) ?_
    rw [List.drop_eq_nil_of_le (by omega)]
    have := mc_exps l0 l1 l2 l3 h0 h1 h2 h3 l2.length 0 (by omega)
    simpa using this
  | d + 1, i, hi => by
    have hlt : i < l.length := by omega
    have ih := mc_nums l0 l1 l2 l3 h0 h1 h2 h3 l hl d (i + 1) (by omega)
    have hw := wrap_next i l.length hlt (by omega)
    have hat := rd_at_int l i hlt
    rw [List.getElem?_eq_getElem hlt] at hat
    refine Ev.step (fun k => by simp only [custodianref_ModuleCheck.l0]; rw [if_pos (by omega), if_pos (by omega), if_pos (by omega), hw, isNumber_is, Option.bind_some]) ?_
    rw [List.drop_eq_getElem_cons hlt, List.all_cons, Option.some.inj hat]
    by_cases hn : in32 (rd l (i : Int)) = true
    · refine Ev.congr (fun k => by rw [if_pos hn]) ?_
      rw [hn, Bool.true_and]
      exact ih
    · refine Ev.congr (fun k => by rw [if_neg hn]) ?_
      rw [Bool.eq_false_iff.2 hn, Bool.false_and, if_neg (by decide)]
      exact Ev.now _

theorem modCheck_is (l0 l1 : List Int) (l2 : List S57) (l3 : List S59) : Ev (fun k => custodianref_ModuleCheck.f k l0 l1 l2 l3) (modCheck l0 l1 l2 l3) := by
  unfold custodianref_ModuleCheck.f modCheck
  by_cases h0 : (l0.length : Int) > 120
  · refine Ev.congr (fun k => by rw [if_pos h0]) ?_
    refine Ev.step (fun k => by simp only [custodianref_ModuleCheck.j0]; rw [if_pos trivial]) ?_
    rw [if_pos (by omega)]
    exact Ev.now _
  · by_cases h1 : (l1.length : Int) > 60
    · refine Ev.congr (fun k => by rw [if_neg h0, if_pos h1]) ?_
      refine Ev.step (fun k => by simp only [custodianref_ModuleCheck.j0]; rw [if_pos trivial]) ?_
      rw [if_pos (by omega)]
      exact Ev.now _
    · by_cases h2 : (l2.length : Int) > 20
      · refine Ev.congr (fun k => by rw [if_neg h0, if_neg h1, if_pos h2]) ?_
        refine Ev.step (fun k => by simp only [custodianref_ModuleCheck.j0]; rw [if_pos trivial]) ?_
        rw [if_pos (by omega)]
        exact Ev.now _
      · refine Ev.congr (fun k => by rw [if_neg h0, if_neg h1, if_neg h2]) ?_
        by_cases h3 : (l3.length : Int) > 20
        · refine Ev.step (fun k => by simp only [custodianref_ModuleCheck.j0]; rw [decide_eq_true h3, if_pos (by rfl)]) ?_
          rw [if_pos (by omega)]
          exact Ev.now _
        · have hc : custodianref_Copy_int.f l0 = some l0 := by unfold custodianref_Copy_int.f; rw [if_pos (by omega)]
          refine Ev.step (fun k => by simp only [custodianref_ModuleCheck.j0]; rw [decide_eq_false h3, if_neg (by decide), hc, Option.bind_some, if_pos (by omega), Option.bind_some]) ?_
          have := mc_nums l0 l1 l2 l3 (by omega) (by omega) (by omega) (by omega) (l0 ++ l1) (by simp; omega) (l0 ++ l1).length 0 (by omega)
          rw [List.drop_zero, List.all_append] at this
          rw [if_neg (by omega)]
          have he : (if l0.all in32 = false ∨ l1.all in32 = false then (1 : Int) else if expsGo l0.length [] l2 = 0 then impsGo l1.length [] l3 else expsGo l0.length [] l2) = if (l0.all in32 && l1.all in32) = true then (if expsGo l0.length [] l2 = 0 then impsGo l1.length [] l3 else expsGo l0.length [] l2) else 1 := by
            cases l0.all in32 <;> cases l1.all in32 <;> simp
          rw [he]
          exact this

end Go.Proofs.Ytljjdkjmciheeaa.P
