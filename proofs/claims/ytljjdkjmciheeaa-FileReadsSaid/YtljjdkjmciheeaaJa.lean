/- Plain lemmas: what the printed functions of the reference come to: IsName, Has, ModuleCheck. -/
import Derived.Test.YtljjdkjmciheeaaPw4
namespace Go.Proofs.Ytljjdkjmciheeaa.P
open Go.RowKit Go.Proofs.YtljjdkjmciheeaaW.PrintWords Go.Proofs.YtljjdkjmciheeaaW.PrintLast Go.Proofs.YtljjdkjmciheeaaW.PrintMore
set_option linter.unusedVariables false

theorem outside_is (a b c : Int) : custodianref_outside.f a b c = some (decide (a < b) || decide (c < a)) := by
  unfold custodianref_outside.f
  split
  · rename_i h; simp [h]
  · rename_i h; simp [h]
theorem isNumber_is (n : Int) : custodianref_IsNumber.f n = some (in32 n) := by
  unfold custodianref_IsNumber.f
  rw [outside_is]
  simp only [Option.bind_some, in32]
  congr 1
  rw [Bool.eq_iff_iff]
  simp
theorem wrap_next (i n : Nat) (hi : i < n) (hn : n ≤ 140737488355328) : wrap64 ((i : Int) + 1) = ((i + 1 : Nat) : Int) := by unfold wrap64; omega

theorem letters36 : ∀ c : Fin 256, decide (0 ≤ Lib.indexByte [97, 98, 99, 100, 101, 102, 103, 104, 105, 106, 107, 108, 109, 110, 111, 112, 113, 114, 115, 116, 117, 118, 119, 120, 121, 122, 48, 49, 50, 51, 52, 53, 54, 55, 56, 57] (UInt8.ofNat c.val)) = nameRune c.val := by decide +kernel
theorem letters26 : ∀ c : Fin 256, decide (0 ≤ Lib.indexByte [97, 98, 99, 100, 101, 102, 103, 104, 105, 106, 107, 108, 109, 110, 111, 112, 113, 114, 115, 116, 117, 118, 119, 120, 121, 122] (UInt8.ofNat c.val)) = (decide (97 ≤ c.val) && decide (c.val ≤ 122)) := by decide +kernel
theorem u8_fin (c : UInt8) : c = UInt8.ofNat (⟨c.toNat, c.toNat_lt⟩ : Fin 256).val := by simp
theorem contains36 (s : ByteArray) (i : Nat) (h : i < s.size) : strings_Contains.f (⟨#[97, 98, 99, 100, 101, 102, 103, 104, 105, 106, 107, 108, 109, 110, 111, 112, 113, 114, 115, 116, 117, 118, 119, 120, 121, 122, 48, 49, 50, 51, 52, 53, 54, 55, 56, 57]⟩ : ByteArray) (s.extract i (i + 1)) = some (nameRune (s[i]'h).toNat) := by
  have hsz : (s.extract i (i + 1)).size = 1 := by simp; omega
  unfold strings_Contains.f
  rw [dif_pos hsz]
  have e : (s.extract i (i + 1))[0]'(by omega) = s[i]'h := by simp [ByteArray.getElem_extract]
  rw [e]
  have := letters36 ⟨(s[i]'h).toNat, (s[i]'h).toNat_lt⟩
  rw [← u8_fin] at this
  exact congrArg some this
theorem contains26 (s : ByteArray) (h : 0 < s.size) : strings_Contains.f (⟨#[97, 98, 99, 100, 101, 102, 103, 104, 105, 106, 107, 108, 109, 110, 111, 112, 113, 114, 115, 116, 117, 118, 119, 120, 121, 122]⟩ : ByteArray) (s.extract 0 1) = some (decide (97 ≤ (s[0]'h).toNat) && decide ((s[0]'h).toNat ≤ 122)) := by
  have hsz : (s.extract 0 1).size = 1 := by simp; omega
  unfold strings_Contains.f
  rw [dif_pos hsz]
  have e : (s.extract 0 1)[0]'(by omega) = s[0]'h := by simp [ByteArray.getElem_extract]
  rw [e]
  have := letters26 ⟨(s[0]'h).toNat, (s[0]'h).toNat_lt⟩
  rw [← u8_fin] at this
  exact congrArg some this

theorem isName_go (s : ByteArray) (hs : s.size ≤ 12) : ∀ (d i : Nat), i + d = s.size → Ev (fun k => custodianref_IsName.l0 k s (s.size : Int) (i : Int)) ((s.data.toList.drop i).all fun c => nameRune c.toNat)
  | 0, i, hi => by
    refine Ev.step (fun k => by simp only [custodianref_IsName.l0]; rw [if_neg (by omega)]) ?_
    rw [List.drop_eq_nil_of_le (by simp; omega)]
    exact Ev.now _
  | d + 1, i, hi => by
    have hlt : i < s.size := by omega
    have ih := isName_go s hs d (i + 1) (by omega)
    have hw := wrap_next i s.size hlt (by omega)
    have hd : s.data.toList.drop i = (s[i]'hlt) :: s.data.toList.drop (i + 1) := by
      rw [List.drop_eq_getElem_cons (by simpa using hlt)]; rfl
    refine Ev.step (fun k => by simp only [custodianref_IsName.l0]; rw [if_pos (by omega), if_pos (by omega), hw, if_pos (by omega), if_pos (by omega), Int.toNat_natCast, Int.toNat_natCast, contains36 s i hlt, Option.bind_some]) ?_
    rw [hd, List.all_cons]
    by_cases hn : nameRune (s[i]'hlt).toNat = true
    · refine Ev.congr (fun k => by rw [if_pos hn]) ?_
      rw [hn, Bool.true_and]
      exact ih
    · refine Ev.congr (fun k => by rw [if_neg hn]) ?_
      rw [Bool.eq_false_iff.2 hn, Bool.false_and]
      exact Ev.now _

theorem isName_is (s : ByteArray) : Ev (fun k => custodianref_IsName.f k s) (nameB s) := by
  unfold custodianref_IsName.f
  simp only [outside_is, Option.bind_some]
  by_cases h : (decide ((s.size : Int) < 1) || decide (12 < (s.size : Int))) = true
  · have hn : nameB s = false := by
      simp only [Bool.or_eq_true, decide_eq_true_eq] at h
      unfold nameB
      rcases h with h | h
      · rw [decide_eq_false (show ¬ 1 ≤ s.size by omega)]; rfl
      · rw [decide_eq_false (show ¬ s.size ≤ 12 by omega)]; simp
    refine Ev.congr (fun k => by rw [if_pos h]) ?_
    refine Ev.step (fun k => by simp only [custodianref_IsName.j0]; rw [if_pos trivial]) ?_
    rw [hn]
    exact Ev.now _
  · have h0 : 0 < s.size := by simp at h; omega
    have h12 : s.size ≤ 12 := by simp at h; omega
    refine Ev.congr (fun k => by rw [if_neg h, if_pos (by omega), if_pos (by omega), contains26 s h0, Option.bind_some]) ?_
    have hb : (97 ≤ bt s 0) ↔ 97 ≤ (s[0]'h0).toNat := by
      rw [← bt_at s 0 h0]; simp; omega
    by_cases hl : (decide (97 ≤ (s[0]'h0).toNat) && decide ((s[0]'h0).toNat ≤ 122)) = true
    · refine Ev.step (fun k => by simp only [custodianref_IsName.j0]; rw [hl, if_neg (by decide)]) ?_
      have hh := isName_go s h12 s.size 0 (by omega)
      rw [List.drop_zero] at hh
      have hn : nameB s = (s.data.toList.all fun c => nameRune c.toNat) := by
        simp only [Bool.and_eq_true, decide_eq_true_eq] at hl
        unfold nameB
        rw [decide_eq_true (show 1 ≤ s.size from h0), decide_eq_true h12, decide_eq_true (hb.2 hl.1)]
        simp
      rw [hn]
      exact hh
    · refine Ev.step (fun k => by simp only [custodianref_IsName.j0]; rw [Bool.eq_false_iff.2 hl, if_pos (by rfl)]) ?_
      have hn : nameB s = false := by
        unfold nameB
        by_cases h97 : 97 ≤ (s[0]'h0).toNat
        · have h122 : ¬ (s[0]'h0).toNat ≤ 122 := fun h' => hl (by simp [h97, h'])
          have ha : (s.data.toList.all fun c => nameRune c.toNat) = false := by
            rw [List.all_eq_false]
            refine ⟨s[0]'h0, by rw [ByteArray.getElem_eq_getElem_data]; simp, ?_⟩
            simp [nameRune]; omega
          rw [ha]; simp
        · rw [decide_eq_false (fun h' => h97 (hb.1 h'))]; simp
      rw [hn]
      exact Ev.now _

end Go.Proofs.Ytljjdkjmciheeaa.P
