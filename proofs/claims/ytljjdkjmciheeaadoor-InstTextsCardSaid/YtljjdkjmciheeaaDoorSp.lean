/- What strings.Split gives at a separator of one byte, told letter by letter. No program in it. -/
import Derived.Lib.SplitLaws
import Derived.Lib.Split
namespace Go.Proofs.YtljjdkjmciheeaaDoor.P
open Go.Lib

def splitC (c : UInt8) : List UInt8 → List (List UInt8)
  | [] => [[]]
  | b :: l => if b = c then [] :: splitC c l else match splitC c l with
    | [] => [[b]]
    | h :: t => (b :: h) :: t

theorem index_same (c : UInt8) (l : List UInt8) : Lib.index (c :: l) [c] = 0 := by simp [Lib.index, List.isPrefixOf]
theorem index_skip (b c : UInt8) (l : List UInt8) (h : b ≠ c) : Lib.index (b :: l) [c] = if Lib.index l [c] = -1 then -1 else Lib.index l [c] + 1 := by
  have h' : (c == b) = false := by simpa using fun e => h e.symm
  have : ([c] : List UInt8).isPrefixOf (b :: l) = false := by simp [List.isPrefixOf, h']
  simp only [Lib.index, this]
  simp
theorem splitK_C (c : UInt8) : ∀ s : List UInt8, Lib.splitK [c] 0 (s.count c) s = splitC c s ∧ (0 < s.count c → 0 ≤ Lib.index s [c])
  | [] => ⟨rfl, fun h => by simp at h⟩
  | b :: l => by
    obtain ⟨ih, ih2⟩ := splitK_C c l
    by_cases h : b = c
    · subst h
      refine ⟨?_, fun _ => by rw [index_same]; omega⟩
      rw [List.count_cons_self]
      simp only [Lib.splitK, splitC, index_same]
      simp [ih]
    · have hc : (b :: l).count c = l.count c := List.count_cons_of_ne (by simpa using h)
      rw [hc]
      cases hk : l.count c with
      | zero =>
        rw [hk] at ih
        refine ⟨?_, fun h0 => by omega⟩
        simp only [Lib.splitK] at ih ⊢
        simp only [splitC, if_neg h, ← ih]
      | succ k =>
        rw [hk] at ih ih2
        have hi := ih2 (by omega)
        have e1 : Lib.index (b :: l) [c] = Lib.index l [c] + 1 := by rw [index_skip b c l h, if_neg (by omega)]
        refine ⟨?_, fun _ => by rw [e1]; omega⟩
        have n1 : (Lib.index l [c] == -1) = false := by simp; omega
        have n2 : (Lib.index (b :: l) [c] == -1) = false := by simp; omega
        simp only [Lib.splitK, n1, n2, e1] at ih ⊢
        have e2 : (Lib.index l [c] + 1).toNat = (Lib.index l [c]).toNat + 1 := by omega
        have n3 : ¬ (Lib.index l [c] + 1 = -1) := by omega
        simp only [splitC, if_neg h, ← ih, e2]
        simp [n3]
theorem splitB_C (c : UInt8) (s : ByteArray) : Lib.splitB ⟨#[c]⟩ 0 (Lib.countB s ⟨#[c]⟩) s = (splitC c s.data.toList).map fun l => (⟨l.toArray⟩ : ByteArray) := by
  have h := Lib.splitB_data ⟨#[c]⟩ 0 (Lib.countB s ⟨#[c]⟩) s
  have hc : Lib.countB s ⟨#[c]⟩ = s.data.toList.count c := Lib.count_one c s.data.toList
  rw [hc] at h ⊢
  have h2 := (splitK_C c s.data.toList).1
  have h3 : (Lib.splitB ⟨#[c]⟩ 0 (s.data.toList.count c) s).map (·.data.toList) = splitC c s.data.toList := by rw [h]; exact h2
  rw [← h3, List.map_map]
  conv => lhs; rw [← List.map_id (Lib.splitB ⟨#[c]⟩ 0 (s.data.toList.count c) s)]
  apply List.map_congr_left
  intro x _
  rfl
theorem countB_C (c : UInt8) (s : ByteArray) : Lib.countB s ⟨#[c]⟩ = s.data.toList.count c := Lib.count_one c s.data.toList
end Go.Proofs.YtljjdkjmciheeaaDoor.P
