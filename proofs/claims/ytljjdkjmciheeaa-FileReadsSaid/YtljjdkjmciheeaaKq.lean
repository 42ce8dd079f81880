/- The plain law of FileReads: what was packed is read. -/
import Derived.Test.YtljjdkjmciheeaaKp
namespace Go.Proofs.Ytljjdkjmciheeaa.P
open Go.RowKit Go.Proofs.YtljjdkjmciheeaaW.PrintWords Go.Proofs.YtljjdkjmciheeaaW.PrintLast Go.Proofs.YtljjdkjmciheeaaW.PrintMore
set_option linter.unusedVariables false

theorem exps_ok (nc : Nat) (hnc : nc ≤ 120) : ∀ (l b : List S57), expsGo nc b l = 0 → ∀ x ∈ l, okName x.f0 x.f1
  | [], _, _ => fun x hx => by cases hx
  | y :: l, b, h => fun x hx => by
    unfold expsGo at h
    split at h
    · rename_i h0
      rcases List.mem_cons.1 hx with rfl | hx
      · unfold expErr at h0
        split at h0
        · cases h0
        · rename_i hn
          split at h0
          · cases h0
          · split at h0
            · cases h0
            · split at h0
              · cases h0
              · exact ⟨nameB_size (by cases hq : nameB x.f0 with | true => rfl | false => exact absurd hq hn), by omega, by omega⟩
      · exact exps_ok nc hnc l _ h x hx
    · rename_i h0; exact absurd h h0
theorem imps_ok (nd : Nat) (hnd : nd ≤ 60) : ∀ (l b : List S59), impsGo nd b l = 0 → ∀ x ∈ l, okName x.f0 x.f1
  | [], _, _ => fun x hx => by cases hx
  | y :: l, b, h => fun x hx => by
    unfold impsGo at h
    split at h
    · rename_i h0
      rcases List.mem_cons.1 hx with rfl | hx
      · unfold impErr at h0
        split at h0
        · cases h0
        · rename_i hn
          split at h0
          · cases h0
          · split at h0
            · cases h0
            · exact ⟨nameB_size (by cases hq : nameB x.f0 with | true => rfl | false => exact absurd hq hn), by omega, by omega⟩
      · exact imps_ok nd hnd l _ h x hx
    · rename_i h0; exact absurd h h0
theorem mod_ok {l0 l1 : List Int} {l2 : List S57} {l3 : List S59} (h : modCheck l0 l1 l2 l3 = 0) : (∀ x ∈ l2, okName x.f0 x.f1) ∧ (∀ x ∈ l3, okName x.f0 x.f1) := by
  have hs := modCheck_sizes h
  unfold modCheck at h
  split at h
  · cases h
  · split at h
    · cases h
    · split at h
      · rename_i h3
        exact ⟨exps_ok _ hs.1 _ _ h3, imps_ok _ hs.2 _ _ h⟩
      · rename_i h3; exact absurd h h3

/-- A packed text, part by part. -/
def bodyB (l0 l1 : List Int) (l2 : List S57) (l3 : List S59) : ByteArray := strOfNums (l0.flatMap be4) ++ (strOfNums (l1.flatMap be4) ++ (strOfNums (l2.flatMap labB) ++ (strOfNums (l3.flatMap impB) ++ strOfNums [])))
def sumT (l0 l1 : List Int) (l2 : List S57) (l3 : List S59) : ByteArray := strOfNums [(sumB (strOfNums (packNums l0 l1 l2 l3)) / 256) % 256, sumB (strOfNums (packNums l0 l1 l2 l3)) % 256]
theorem packB_parts (l0 l1 : List Int) (l2 : List S57) (l3 : List S59) : packB l0 l1 l2 l3 = strOfNums (head7 l0 l1 l2 l3) ++ (bodyB l0 l1 l2 l3 ++ sumT l0 l1 l2 l3) := by
  unfold packB bodyB sumT
  rw [str_app]
  have : packNums l0 l1 l2 l3 = head7 l0 l1 l2 l3 ++ (l0.flatMap be4 ++ (l1.flatMap be4 ++ (l2.flatMap labB ++ (l3.flatMap impB ++ [])))) := by
    simp [packNums, outN]
  conv => lhs; arg 1; rw [this]
  rw [str_app, str_app, str_app, str_app, str_app]
  simp only [ByteArray.append_assoc]
theorem ext_mid (a b c : ByteArray) : (a ++ (b ++ c)).extract a.size ((a ++ (b ++ c)).size - c.size) = b := by
  rw [← ByteArray.append_assoc, ByteArray.size_append]
  have : (a ++ b).size + c.size - c.size = (a ++ b).size := by omega
  rw [this]
  apply ByteArray.ext
  rw [ByteArray.data_extract, ByteArray.data_append, ByteArray.data_append, ByteArray.size_append]
  have key : ∀ x y z : Array UInt8, ((x ++ y) ++ z).extract x.size (x.size + y.size) = y := by
    intro x y z
    rw [Array.append_assoc, Array.extract_append]
    simp
  exact key a.data b.data c.data
theorem bt_of (s : ByteArray) (i : Nat) (h : i < s.size) : bt s (i : Int) = ((s[i]'h).toNat : Int) := by
  unfold bt
  simp [h]
theorem bt_left (a b : ByteArray) (i : Nat) (h : i < a.size) : bt (a ++ b) (i : Int) = bt a (i : Int) := by
  rw [bt_of (a ++ b) i (by rw [ByteArray.size_append]; omega), bt_of a i h]
  rw [ByteArray.getElem_append_left h]

end Go.Proofs.Ytljjdkjmciheeaa.P
