/- The plain law of FileReads: the program's parser gives back what was packed; the law. -/
import Derived.Test.YtljjdkjmciheeaaKr
namespace Go.Proofs.Ytljjdkjmciheeaa.P
open Go.RowKit Go.Proofs.YtljjdkjmciheeaaW.PrintWords Go.Proofs.YtljjdkjmciheeaaW.PrintLast Go.Proofs.YtljjdkjmciheeaaW.PrintMore
set_option linter.unusedVariables false

theorem one_bytes (b : Int) (h : 0 ≤ b ∧ b < 256) : bytesOf (strOfNums [b]) = [b] := bytes_str _ (by intro x hx; simp at hx; omega)
theorem fN_step (d : Nat) (v b : Int) (h : 0 ≤ b ∧ b < 256) (r : ByteArray) : fN (d + 1) v (strOfNums [b] ++ r) = fN d (256 * v + b) r := by
  have hs : ¬ (strOfNums [b] ++ r).size = 0 := by rw [ByteArray.size_append, one_size]; omega
  have hb : bt (strOfNums [b] ++ r) 0 = b := by
    have h1 := bt_left (strOfNums [b]) r 0 (by rw [one_size]; decide)
    have h2 := bt_bytes (strOfNums [b]) 0 (by rw [one_size]; decide)
    have h3 : (bytesOf (strOfNums [b]))[0]'(by rw [bytesOf_length, one_size]; decide) = b := by simp [one_bytes b h]
    rw [h3] at h2
    exact h1.trans h2.symm
  have hc : cutN (strOfNums [b] ++ r) = r := by
    unfold cutN
    rw [if_neg hs]
    have := ext_right (strOfNums [b]) r
    rw [one_size] at this
    exact this
  simp only [fN]
  rw [if_neg hs, hb, hc]
theorem fN1_ok (b : Int) (h : 0 ≤ b ∧ b < 256) (r : ByteArray) : fN 1 0 (strOfNums [b] ++ r) = (b, r) := by
  rw [fN_step 0 0 b h r]
  simp [fN]
theorem fN4_ok (n : Int) (h : in32 n = true) (r : ByteArray) : fN 4 0 (strOfNums (be4 n) ++ r) = (n + 2147483648, r) := by
  simp [in32] at h
  have e : strOfNums (be4 n) = strOfNums [(n + 2147483648) / 16777216 % 256] ++ (strOfNums [(n + 2147483648) / 65536 % 256] ++ (strOfNums [(n + 2147483648) / 256 % 256] ++ strOfNums [(n + 2147483648) % 256])) := by
    rw [← str_app, ← str_app, ← str_app]; rfl
  rw [e]
  simp only [ByteArray.append_assoc]
  rw [fN_step 3 _ _ (by omega), fN_step 2 _ _ (by omega), fN_step 1 _ _ (by omega), fN_step 0 _ _ (by omega)]
  simp only [fN]
  congr 1
  omega
theorem fNums_ok (rest : ByteArray) : ∀ (l0 l : List Int), l.all in32 = true → ∀ (n : Nat) (s : ByteArray), fNums n s = (l0, strOfNums (l.flatMap be4) ++ rest) → fNums (n + l.length) s = (l0 ++ l, rest)
  | l0, [], _, n, s, h => by
    have h : fNums n s = (l0, rest) := by rw [h]; congr 1
    rw [List.append_nil]
    exact h
  | l0, x :: l, hl, n, s, h => by
    simp only [List.all_cons, Bool.and_eq_true] at hl
    have h1 : fNums (n + 1) s = (l0 ++ [x], strOfNums (l.flatMap be4) ++ rest) := by
      simp only [fNums, h]
      rw [List.flatMap_cons, str_app, ByteArray.append_assoc, fN4_ok x hl.1]
      have : x + 2147483648 - 2147483648 = x := by omega
      simp only [this]
    have := fNums_ok rest (l0 ++ [x]) l hl.2 (n + 1) s h1
    rw [List.length_cons, show n + (l.length + 1) = n + 1 + l.length from by omega, this, List.append_assoc]
    rfl
theorem fName_ok (f0 : ByteArray) (f1 : Int) (h : okName f0 f1) (rest : ByteArray) : fName (strOfNums ([(f0.size : Int) % 256] ++ bytesOf f0 ++ [f1 % 256]) ++ rest) = (f0, f1, rest) := by
  obtain ⟨h0, h1, h2⟩ := h
  rw [str_app, str_app, str_bytes, ByteArray.append_assoc, ByteArray.append_assoc, Int.emod_eq_of_lt (by omega) (by omega), Int.emod_eq_of_lt h1 h2]
  unfold fName
  simp only []
  rw [fN1_ok _ (by omega)]
  have hc : cutM (f0.size : Int) (f0 ++ (strOfNums [f1] ++ rest)) = f0.size := by
    unfold cutM mn
    rw [if_neg (by rw [ByteArray.size_append]; omega)]
    simp
  simp only [hc]
  rw [ext_left, ext_right, fN1_ok _ ⟨h1, h2⟩]
theorem fLabs_ok (rest : ByteArray) : ∀ (l0 l : List S57), (∀ x ∈ l, okName x.f0 x.f1) → ∀ (n : Nat) (s : ByteArray), fLabs n s = (l0, strOfNums (l.flatMap labB) ++ rest) → fLabs (n + l.length) s = (l0 ++ l, rest)
  | l0, [], _, n, s, h => by
    have h : fLabs n s = (l0, rest) := by rw [h]; congr 1
    rw [List.append_nil]
    exact h
  | l0, x :: l, hl, n, s, h => by
    have h1 : fLabs (n + 1) s = (l0 ++ [x], strOfNums (l.flatMap labB) ++ rest) := by
      simp only [fLabs, h]
      rw [List.flatMap_cons, str_app, ByteArray.append_assoc, labB, fName_ok _ _ (hl x List.mem_cons_self)]
    have := fLabs_ok rest (l0 ++ [x]) l (fun y hy => hl y (List.mem_cons_of_mem _ hy)) (n + 1) s h1
    rw [List.length_cons, show n + (l.length + 1) = n + 1 + l.length from by omega, this, List.append_assoc]
    rfl
theorem fImps_ok (rest : ByteArray) : ∀ (l0 l : List S59), (∀ x ∈ l, okName x.f0 x.f1) → ∀ (n : Nat) (s : ByteArray), fImps n s = (l0, strOfNums (l.flatMap impB) ++ rest) → fImps (n + l.length) s = (l0 ++ l, rest)
  | l0, [], _, n, s, h => by
    have h : fImps n s = (l0, rest) := by rw [h]; congr 1
    rw [List.append_nil]
    exact h
  | l0, x :: l, hl, n, s, h => by
    have h1 : fImps (n + 1) s = (l0 ++ [x], strOfNums (l.flatMap impB) ++ rest) := by
      simp only [fImps, h]
      rw [List.flatMap_cons, str_app, ByteArray.append_assoc, impB, fName_ok _ _ (hl x List.mem_cons_self)]
    have := fImps_ok rest (l0 ++ [x]) l (fun y hy => hl y (List.mem_cons_of_mem _ hy)) (n + 1) s h1
    rw [List.length_cons, show n + (l.length + 1) = n + 1 + l.length from by omega, this, List.append_assoc]
    rfl

/-- The program's parse of a text of enough bytes. -/
def aF (s : ByteArray) : Int × ByteArray := fN 1 0 (s.extract 3 (s.size - 2))
def bF (s : ByteArray) : Int × ByteArray := fN 1 0 (aF s).2
def gF (s : ByteArray) : Int × ByteArray := fN 1 0 (bF s).2
def hF (s : ByteArray) : Int × ByteArray := fN 1 0 (gF s).2
def cF (s : ByteArray) : List Int × ByteArray := fNums (aF s).1.toNat (hF s).2
def dF (s : ByteArray) : List Int × ByteArray := fNums (bF s).1.toNat (cF s).2
def eF (s : ByteArray) : List S57 × ByteArray := fLabs (gF s).1.toNat (dF s).2
def iF (s : ByteArray) : List S59 × ByteArray := fImps (hF s).1.toNat (eF s).2
theorem pack_three (l0 l1 : List Int) (l2 : List S57) (l3 : List S59) : packB l0 l1 l2 l3 = strOfNums [67, 77, 49] ++ ((strOfNums [(l0.length : Int) % 256] ++ (strOfNums [(l1.length : Int) % 256] ++ (strOfNums [(l2.length : Int) % 256] ++ (strOfNums [(l3.length : Int) % 256] ++ bodyB l0 l1 l2 l3)))) ++ sumT l0 l1 l2 l3) := by
  rw [packB_parts]
  have : head7 l0 l1 l2 l3 = [67, 77, 49] ++ ([(l0.length : Int) % 256] ++ ([(l1.length : Int) % 256] ++ ([(l2.length : Int) % 256] ++ [(l3.length : Int) % 256]))) := rfl
  rw [this, str_app, str_app, str_app, str_app]
  simp only [ByteArray.append_assoc]
theorem back_F {l0 l1 : List Int} {l2 : List S57} {l3 : List S59} (h : modCheck l0 l1 l2 l3 = 0) :
    (cF (packB l0 l1 l2 l3)).1 = l0 ∧ (dF (packB l0 l1 l2 l3)).1 = l1 ∧ (eF (packB l0 l1 l2 l3)).1 = l2 ∧ (iF (packB l0 l1 l2 l3)).1 = l3 := by
  have hs := modCheck_sizes h
  have hq := (modCheck_parts h).1
  have hp := (modCheck_parts h).2.1
  have ho := mod_ok h
  have hx : (packB l0 l1 l2 l3).extract 3 ((packB l0 l1 l2 l3).size - 2) = strOfNums [(l0.length : Int) % 256] ++ (strOfNums [(l1.length : Int) % 256] ++ (strOfNums [(l2.length : Int) % 256] ++ (strOfNums [(l3.length : Int) % 256] ++ bodyB l0 l1 l2 l3))) := by
    have := ext_mid (strOfNums [67, 77, 49]) (strOfNums [(l0.length : Int) % 256] ++ (strOfNums [(l1.length : Int) % 256] ++ (strOfNums [(l2.length : Int) % 256] ++ (strOfNums [(l3.length : Int) % 256] ++ bodyB l0 l1 l2 l3)))) (sumT l0 l1 l2 l3)
    rw [sumT_size, ← pack_three] at this
    exact this
  have ha : aF (packB l0 l1 l2 l3) = ((l0.length : Int), strOfNums [(l1.length : Int) % 256] ++ (strOfNums [(l2.length : Int) % 256] ++ (strOfNums [(l3.length : Int) % 256] ++ bodyB l0 l1 l2 l3))) := by
    unfold aF; rw [hx, fN1_ok _ (by omega)]; congr 1; omega
  have hb : bF (packB l0 l1 l2 l3) = ((l1.length : Int), strOfNums [(l2.length : Int) % 256] ++ (strOfNums [(l3.length : Int) % 256] ++ bodyB l0 l1 l2 l3)) := by
    unfold bF; rw [ha, fN1_ok _ (by omega)]; congr 1; omega
  have hg : gF (packB l0 l1 l2 l3) = ((l2.length : Int), strOfNums [(l3.length : Int) % 256] ++ bodyB l0 l1 l2 l3) := by
    unfold gF; rw [hb, fN1_ok _ (by omega)]; congr 1; omega
  have hh : hF (packB l0 l1 l2 l3) = ((l3.length : Int), bodyB l0 l1 l2 l3) := by
    unfold hF; rw [hg, fN1_ok _ (by omega)]; congr 1; omega
  have hc : cF (packB l0 l1 l2 l3) = (l0, strOfNums (l1.flatMap be4) ++ (strOfNums (l2.flatMap labB) ++ (strOfNums (l3.flatMap impB) ++ strOfNums []))) := by
    unfold cF
    rw [ha, hh]
    have := fNums_ok (strOfNums (l1.flatMap be4) ++ (strOfNums (l2.flatMap labB) ++ (strOfNums (l3.flatMap impB) ++ strOfNums []))) [] l0 hp.1 0 (bodyB l0 l1 l2 l3) rfl
    rw [Nat.zero_add] at this
    exact this
  have hd : dF (packB l0 l1 l2 l3) = (l1, strOfNums (l2.flatMap labB) ++ (strOfNums (l3.flatMap impB) ++ strOfNums [])) := by
    unfold dF
    rw [hb, hc]
    have := fNums_ok (strOfNums (l2.flatMap labB) ++ (strOfNums (l3.flatMap impB) ++ strOfNums [])) [] l1 hp.2 0 _ rfl
    rw [Nat.zero_add] at this
    exact this
  have he : eF (packB l0 l1 l2 l3) = (l2, strOfNums (l3.flatMap impB) ++ strOfNums []) := by
    unfold eF
    rw [hg, hd]
    have := fLabs_ok (strOfNums (l3.flatMap impB) ++ strOfNums []) [] l2 ho.1 0 _ rfl
    rw [Nat.zero_add] at this
    exact this
  have hi : iF (packB l0 l1 l2 l3) = (l3, strOfNums []) := by
    unfold iF
    rw [hh, he]
    have := fImps_ok (strOfNums []) [] l3 ho.2 0 _ rfl
    rw [Nat.zero_add] at this
    exact this
  rw [hc, hd, he, hi]
  exact ⟨rfl, rfl, rfl, rfl⟩

end Go.Proofs.Ytljjdkjmciheeaa.P
