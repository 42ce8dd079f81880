/- The plain law of FileReads: both answers are one. -/
import Derived.Test.YtljjdkjmciheeaaKs
import Derived.Test.YtljjdkjmciheeaaPy6
namespace Go.Proofs.Ytljjdkjmciheeaa.P
open Go.RowKit Go.Proofs.YtljjdkjmciheeaaW.PrintWords Go.Proofs.YtljjdkjmciheeaaW.PrintLast Go.Proofs.YtljjdkjmciheeaaW.PrintMore
set_option linter.unusedVariables false

theorem eqInt_go (l : List Int) (hl : l.length ≤ 1000) : ∀ (d i : Nat), i + d = l.length → Ev (fun k => custodianref_Eq_int.l0 k l l (l.length : Int) (i : Int)) true
  | 0, i, hi => by
    refine Ev.step (fun k => by simp only [custodianref_Eq_int.l0]; rw [if_neg (by omega)]) ?_
    exact Ev.now _
  | d + 1, i, hi => by
    have ih := eqInt_go l hl d (i + 1) (by omega)
    have e2 : wrap64 ((i : Int) + 1) = ((i + 1 : Nat) : Int) := by unfold wrap64; omega
    refine Ev.step (fun k => by simp only [custodianref_Eq_int.l0]; rw [if_pos (by omega), if_pos (by omega), if_pos (by omega), if_pos (by omega), e2]) ?_
    exact ih
theorem eqLab_go (l : List S57) (hl : l.length ≤ 1000) : ∀ (d i : Nat), i + d = l.length → Ev (fun k => api_Label_29.l0 k l l (l.length : Int) (i : Int)) true
  | 0, i, hi => by
    refine Ev.step (fun k => by simp only [api_Label_29.l0]; rw [if_neg (by omega)]) ?_
    exact Ev.now _
  | d + 1, i, hi => by
    have ih := eqLab_go l hl d (i + 1) (by omega)
    have e2 : wrap64 ((i : Int) + 1) = ((i + 1 : Nat) : Int) := by unfold wrap64; omega
    refine Ev.step (fun k => by simp only [api_Label_29.l0]; rw [if_pos (by omega), if_pos (by omega), if_pos (by omega), if_pos (by omega), if_neg (by simp), e2]) ?_
    exact ih
theorem eqImp_go (l : List S59) (hl : l.length ≤ 1000) : ∀ (d i : Nat), i + d = l.length → Ev (fun k => api_Import_30.l0 k l l (l.length : Int) (i : Int)) true
  | 0, i, hi => by
    refine Ev.step (fun k => by simp only [api_Import_30.l0]; rw [if_neg (by omega)]) ?_
    exact Ev.now _
  | d + 1, i, hi => by
    have ih := eqImp_go l hl d (i + 1) (by omega)
    have e2 : wrap64 ((i : Int) + 1) = ((i + 1 : Nat) : Int) := by unfold wrap64; omega
    refine Ev.step (fun k => by simp only [api_Import_30.l0]; rw [if_pos (by omega), if_pos (by omega), if_pos (by omega), if_pos (by omega), if_neg (by simp), e2]) ?_
    exact ih
theorem modEq_is (c d : List Int) (e : List S57) (i : List S59) (hc : c.length ≤ 1000) (hd : d.length ≤ 1000) (he : e.length ≤ 1000) (hi : i.length ≤ 1000) : Ev (fun k => custodianref_ModuleEq.f k c d e i c d e i) true := by
  unfold custodianref_ModuleEq.f
  refine Ev.bind (a := true) (by unfold custodianref_Eq_int.f; refine Ev.congr (fun k => by rw [if_pos rfl]) ?_; exact eqInt_go c hc c.length 0 (by omega)) ?_
  refine Ev.congr (fun k => by rw [if_pos rfl]) ?_
  refine Ev.bind (a := true) (by unfold custodianref_Eq_int.f; refine Ev.congr (fun k => by rw [if_pos rfl]) ?_; exact eqInt_go d hd d.length 0 (by omega)) ?_
  refine Ev.congr (fun k => by rw [if_pos rfl]) ?_
  refine Ev.bind (a := true) (by unfold api_Label_29.f; refine Ev.congr (fun k => by rw [if_pos rfl]) ?_; exact eqLab_go e he e.length 0 (by omega)) ?_
  refine Ev.congr (fun k => by rw [if_pos rfl]) ?_
  refine Ev.bind (a := true) (by unfold api_Import_30.f; refine Ev.congr (fun k => by rw [if_pos rfl]) ?_; exact eqImp_go i hi i.length 0 (by omega)) ?_
  exact Ev.now _

theorem numbers_at (v : Int) (h : 0 ≤ v ∧ v < 256) (s : ByteArray) : Ev (fun k => file_reader_numbers.f k s v) (fNums v.toNat s) := by
  obtain ⟨n, rfl⟩ := Int.eq_ofNat_of_zero_le h.1
  exact numbers_is n (by omega) s
theorem labs_at (x0 : ByteArray) (c d : List Int) (vi ve : Int) (hi : 0 ≤ vi ∧ vi < 256) (he : 0 ≤ ve ∧ ve < 256) (s : ByteArray) : Ev (fun k => file_ReadAll.l0 k x0 vi ve 0 s c d []) (lastF x0 c d (fLabs ve.toNat s).1 (fImps vi.toNat (fLabs ve.toNat s).2).1) := by
  obtain ⟨n, rfl⟩ := Int.eq_ofNat_of_zero_le hi.1
  obtain ⟨m, rfl⟩ := Int.eq_ofNat_of_zero_le he.1
  exact labs_go x0 c d s m n (by omega) (by omega) m 0 (by omega)
theorem toList_inj {a b : ByteArray} (h : a.toList = b.toList) : a = b := by
  rw [ByteArray.toList_eq, ByteArray.toList_eq] at h
  exact ByteArray.ext (Array.toList_inj.1 h)
/-- The answer that both give. -/
def readF (s : ByteArray) : List Int × List Int × List S57 × List S59 × Int :=
  if (s.size : Int) > 4000 then ([], [], [], [], 2) else if (s.size : Int) < 9 then ([], [], [], [], 4) else
  if s.extract (s.size - 2) s.size = tailB s then lastF s (cF s).1 (dF s).1 (eF s).1 (iF s).1 else ([], [], [], [], 6)
theorem cut_two (s t : ByteArray) (h : 2 ≤ s.size) (ht : t.size = 2) : (s.extract 0 (s.size - 2) ++ t).toList = s.toList ↔ s.extract (s.size - 2) s.size = t := by
  have hs : s.extract 0 (s.size - 2) ++ s.extract (s.size - 2) s.size = s := by
    apply ByteArray.ext
    rw [ByteArray.data_append, ByteArray.data_extract, ByteArray.data_extract]
    have : s.size = s.data.size := rfl
    rw [this]
    simp
  have hz : (s.extract 0 (s.size - 2)).size = s.size - 2 := by simp
  constructor
  · intro hh
    have h1 := toList_inj hh
    have h2 := ext_right (s.extract 0 (s.size - 2)) t
    rw [hz, h1] at h2
    exact h2
  · intro hh
    rw [← hh, hs]
theorem tail_is (s : ByteArray) (h : s.size ≤ 4000) : tailB s = strOfNums [(sumB (s.extract 0 (s.size - 2)) / 256) % 256, sumB (s.extract 0 (s.size - 2)) % 256] := by
  have := sumB_range (s.extract 0 (s.size - 2)) (by simp; omega)
  unfold tailB
  congr 1
  simp [hiN]
  omega
theorem readAll_is (s : ByteArray) : Ev (fun k => file_ReadAll.f k s) (readF s) := by
  unfold file_ReadAll.f readF
  by_cases h1 : (s.size : Int) > 4000
  · refine Ev.congr (fun k => by rw [if_pos h1]) ?_
    rw [if_pos h1]
    exact Ev.now _
  by_cases h2 : (s.size : Int) < 9
  · refine Ev.congr (fun k => by rw [if_neg h1, if_pos h2]) ?_
    rw [if_neg h1, if_pos h2]
    exact Ev.now _
  have e0 : wrap64 ((s.size : Int) - 2) = ((s.size - 2 : Nat) : Int) := by unfold wrap64; omega
  rw [if_neg h1, if_neg h2]
  refine Ev.congr (fun k => by rw [if_neg h1, if_neg h2, e0, if_pos (by omega), if_pos (by omega), Int.toNat_natCast]) ?_
  refine Ev.bind (Ev.of (fun k => file_sum.mono _ k) (file_sum_is (s.extract 0 (s.size - 2)) (by simp; omega))) ?_
  have hz : (s.extract 0 (s.size - 2)).size = s.size - 2 := by simp
  have ht := tail_is s (by omega)
  have hiff := cut_two s (tailB s) (by omega) (by rw [ht, strOfNums_size]; rfl)
  rw [← ht]
  refine Ev.congr (fun k => by rw [if_pos (by rw [hz, ht, strOfNums_size]; simp; omega)]) ?_
  by_cases h3 : s.extract (s.size - 2) s.size = tailB s
  · rw [if_pos h3]
    refine Ev.congr (fun k => by rw [if_pos (hiff.2 h3), if_pos (by omega)]) ?_
    refine Ev.bind (number1 _) ?_
    refine Ev.bind (number1 _) ?_
    refine Ev.bind (number1 _) ?_
    refine Ev.bind (number1 _) ?_
    refine Ev.bind (numbers_at _ (fN1_range _) _) ?_
    refine Ev.bind (numbers_at _ (fN1_range _) _) ?_
    exact labs_at s _ _ _ _ (fN1_range _) (fN1_range _) _
  · rw [if_neg h3]
    refine Ev.congr (fun k => by rw [if_neg (fun h => h3 (hiff.1 h))]) ?_
    exact Ev.now _
theorem lastF_same (s : ByteArray) : lastF s (cF s).1 (dF s).1 (eF s).1 (iF s).1 = (if readErr s = 0 then ((cR s).1, (dR s).1, (eR s).1, (iR s).1, 0) else ([], [], [], [], 5)) := by
  unfold lastF readErr
  by_cases hF : modCheck (cF s).1 (dF s).1 (eF s).1 (iF s).1 = 0 ∧ (packB (cF s).1 (dF s).1 (eF s).1 (iF s).1).toList = s.toList
  · have hs := toList_inj hF.2
    have hr := read_back hF.1
    rw [hs] at hr
    rw [if_pos hF, hr.1, hr.2.1, hr.2.2.1, hr.2.2.2, if_pos hF]
    rfl
  · rw [if_neg hF]
    by_cases hR : modCheck (cR s).1 (dR s).1 (eR s).1 (iR s).1 = 0 ∧ (packB (cR s).1 (dR s).1 (eR s).1 (iR s).1).toList = s.toList
    · have hs := toList_inj hR.2
      have hr := back_F hR.1
      rw [hs] at hr
      exact absurd (by rw [hr.1, hr.2.1, hr.2.2.1, hr.2.2.2]; exact hR) hF
    · rw [if_neg hR]
      rfl
theorem refRead_is (s : ByteArray) : custodianref_FileRead.f s = some (readF s) := by
  unfold custodianref_FileRead.f readF
  by_cases h1 : (s.size : Int) > 4000
  · rw [if_pos h1, if_pos h1]
  · rw [if_neg h1, if_neg h1]
    by_cases h2 : (s.size : Int) < 9
    · rw [if_pos h2, if_pos h2]
    · rw [if_neg h2, if_neg h2]
      by_cases h3 : s.extract (s.size - 2) s.size = tailB s
      · rw [if_pos h3, if_pos (by rw [h3]), lastF_same]
        split <;> rfl
      · rw [if_neg h3, if_neg (fun h => h3 (toList_inj h))]
theorem readF_len (s : ByteArray) : (readF s).1.length ≤ 1000 ∧ (readF s).2.1.length ≤ 1000 ∧ (readF s).2.2.1.length ≤ 1000 ∧ (readF s).2.2.2.1.length ≤ 1000 := by
  unfold readF
  split
  · exact ⟨by decide, by decide, by decide, by decide⟩
  · split
    · exact ⟨by decide, by decide, by decide, by decide⟩
    · split
      · unfold lastF
        split
        · rename_i h
          have a := modCheck_sizes h.1
          have b := (modCheck_parts h.1).1
          exact ⟨by dsimp only; omega, by dsimp only; omega, by dsimp only; omega, by dsimp only; omega⟩
        · exact ⟨by decide, by decide, by decide, by decide⟩
      · exact ⟨by decide, by decide, by decide, by decide⟩
theorem fileReads_pure (s : ByteArray) : ∃ k, custodianlaw_FileReads.f k s = some true := by
  refine Ev.rounds (g := fun k => custodianlaw_FileReads.f k s) ?_
  unfold custodianlaw_FileReads.f
  refine Ev.bind (readAll_is s) ?_
  refine Ev.congr (fun k => by rw [refRead_is, Option.bind_some]) ?_
  refine Ev.bind (readAll_is ⟨#[]⟩) ?_
  have hl := readF_len s
  refine Ev.bind (modEq_is _ _ _ _ hl.1 hl.2.1 hl.2.2.1 hl.2.2.2) ?_
  refine Ev.congr (fun k => by rw [if_pos rfl, if_pos rfl]) ?_
  exact Ev.now _

end Go.Proofs.Ytljjdkjmciheeaa.P
