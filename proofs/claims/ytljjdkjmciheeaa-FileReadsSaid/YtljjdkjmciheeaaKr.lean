/- The plain law of FileReads: the reference's parser gives back what was packed. -/
import Derived.Test.YtljjdkjmciheeaaKq
namespace Go.Proofs.Ytljjdkjmciheeaa.P
open Go.RowKit Go.Proofs.YtljjdkjmciheeaaW.PrintWords Go.Proofs.YtljjdkjmciheeaaW.PrintLast Go.Proofs.YtljjdkjmciheeaaW.PrintMore
set_option linter.unusedVariables false

theorem head_bytes (l0 l1 : List Int) (l2 : List S57) (l3 : List S59) : bytesOf (strOfNums (head7 l0 l1 l2 l3)) = head7 l0 l1 l2 l3 := by
  apply bytes_str
  intro x hx
  simp [head7] at hx
  omega
theorem head_size (l0 l1 : List Int) (l2 : List S57) (l3 : List S59) : (strOfNums (head7 l0 l1 l2 l3)).size = 7 := by rw [strOfNums_size]; rfl
theorem sumT_size (l0 l1 : List Int) (l2 : List S57) (l3 : List S59) : (sumT l0 l1 l2 l3).size = 2 := by unfold sumT; rw [strOfNums_size]; rfl
theorem bt_head (l0 l1 : List Int) (l2 : List S57) (l3 : List S59) (i : Nat) (h : i < 7) : bt (packB l0 l1 l2 l3) (i : Int) = (head7 l0 l1 l2 l3)[i]'(by simpa [head7] using h) := by
  rw [packB_parts, bt_left _ _ i (by rw [head_size]; exact h), ← bt_bytes _ i (by rw [head_size]; exact h)]
  congr 1
  exact head_bytes l0 l1 l2 l3
theorem pack_size (l0 l1 : List Int) (l2 : List S57) (l3 : List S59) : (packB l0 l1 l2 l3).size = 7 + (bodyB l0 l1 l2 l3).size + 2 := by
  rw [packB_parts, ByteArray.size_append, ByteArray.size_append, head_size, sumT_size]; omega
theorem rest_pack (l0 l1 : List Int) (l2 : List S57) (l3 : List S59) : restR (packB l0 l1 l2 l3) = bodyB l0 l1 l2 l3 := by
  have h := ext_mid (strOfNums (head7 l0 l1 l2 l3)) (bodyB l0 l1 l2 l3) (sumT l0 l1 l2 l3)
  rw [head_size, sumT_size, ← packB_parts] at h
  exact h
theorem counts {l0 l1 : List Int} {l2 : List S57} {l3 : List S59} (h : modCheck l0 l1 l2 l3 = 0) :
    nR (packB l0 l1 l2 l3) 3 = l0.length ∧ nR (packB l0 l1 l2 l3) 4 = l1.length ∧ nR (packB l0 l1 l2 l3) 5 = l2.length ∧ nR (packB l0 l1 l2 l3) 6 = l3.length := by
  have hs := modCheck_sizes h
  have hp := (modCheck_parts h).1
  unfold nR
  rw [bt_head _ _ _ _ 3 (by decide), bt_head _ _ _ _ 4 (by decide), bt_head _ _ _ _ 5 (by decide), bt_head _ _ _ _ 6 (by decide)]
  simp [head7]
  omega
theorem read_back {l0 l1 : List Int} {l2 : List S57} {l3 : List S59} (h : modCheck l0 l1 l2 l3 = 0) :
    (cR (packB l0 l1 l2 l3)).1 = l0 ∧ (dR (packB l0 l1 l2 l3)).1 = l1 ∧ (eR (packB l0 l1 l2 l3)).1 = l2 ∧ (iR (packB l0 l1 l2 l3)).1 = l3 := by
  obtain ⟨n3, n4, n5, n6⟩ := counts h
  have hp := (modCheck_parts h).2.1
  have ho := mod_ok h
  have hc : cR (packB l0 l1 l2 l3) = (l0, strOfNums (l1.flatMap be4) ++ (strOfNums (l2.flatMap labB) ++ (strOfNums (l3.flatMap impB) ++ strOfNums []))) := by
    unfold cR
    rw [n3, rest_pack]
    have := numsR_ok (strOfNums (l1.flatMap be4) ++ (strOfNums (l2.flatMap labB) ++ (strOfNums (l3.flatMap impB) ++ strOfNums []))) [] l0 hp.1 0 (bodyB l0 l1 l2 l3) rfl
    rw [Nat.zero_add] at this
    exact this
  have hd : dR (packB l0 l1 l2 l3) = (l1, strOfNums (l2.flatMap labB) ++ (strOfNums (l3.flatMap impB) ++ strOfNums [])) := by
    unfold dR
    rw [n4, hc]
    have := numsR_ok (strOfNums (l2.flatMap labB) ++ (strOfNums (l3.flatMap impB) ++ strOfNums [])) [] l1 hp.2 0 _ rfl
    rw [Nat.zero_add] at this
    exact this
  have he : eR (packB l0 l1 l2 l3) = (l2, strOfNums (l3.flatMap impB) ++ strOfNums []) := by
    unfold eR
    rw [n5, hd]
    have := labsR_ok (strOfNums (l3.flatMap impB) ++ strOfNums []) [] l2 ho.1 0 _ rfl
    rw [Nat.zero_add] at this
    exact this
  have hi : iR (packB l0 l1 l2 l3) = (l3, strOfNums []) := by
    unfold iR
    rw [n6, he]
    have := impsR_ok (strOfNums []) [] l3 ho.2 0 _ rfl
    rw [Nat.zero_add] at this
    exact this
  rw [hc, hd, he, hi]
  exact ⟨rfl, rfl, rfl, rfl⟩

/-! The program's own parser, as plain functions. -/
theorem wv_range (M v : Int) (s : ByteArray) (h0 : 0 ≤ v) (h1 : v < M) : 0 ≤ (if s.size = 0 then 256 * v else 256 * v + bt s 0) ∧ (if s.size = 0 then 256 * v else 256 * v + bt s 0) < 256 * M := by
  have hb := bt_range s 0
  split <;> omega
theorem fN1_range (s : ByteArray) : 0 ≤ (fN 1 0 s).1 ∧ (fN 1 0 s).1 < 256 := by
  have h := wv_range 1 0 s (by decide) (by decide)
  exact h
theorem fN4_range (s : ByteArray) : 0 ≤ (fN 4 0 s).1 ∧ (fN 4 0 s).1 < 4294967296 := by
  have a := wv_range 1 0 s (by decide) (by decide)
  have b := wv_range _ _ (cutN s) a.1 a.2
  have c := wv_range _ _ (cutN (cutN s)) b.1 b.2
  have d := wv_range _ _ (cutN (cutN (cutN s))) c.1 c.2
  exact d
theorem number1 (s : ByteArray) : Ev (fun k => file_reader_number.f k s 1) (fN 1 0 s) := number_go 1 (by decide) 1 0 0 s rfl (by decide) (by decide)
theorem number4 (s : ByteArray) : Ev (fun k => file_reader_number.f k s 4) (fN 4 0 s) := number_go 4 (by decide) 4 0 0 s rfl (by decide) (by decide)
def fNums : Nat → ByteArray → List Int × ByteArray
  | 0, s => ([], s)
  | n + 1, s => ((fNums n s).1 ++ [(fN 4 0 (fNums n s).2).1 - 2147483648], (fN 4 0 (fNums n s).2).2)
theorem fNums_len (n : Nat) (s : ByteArray) : (fNums n s).1.length = n := by induction n with | zero => rfl | succ n ih => simp [fNums, ih]
theorem numbers_go (n : Nat) (hn : n ≤ 255) (s : ByteArray) : ∀ (d i : Nat), i + d = n → Ev (fun k => file_reader_numbers.l0 k (fNums i s).1 (n : Int) (i : Int) (fNums i s).2) (fNums n s)
  | 0, i, hi => by
    obtain rfl : i = n := by omega
    refine Ev.step (fun k => by simp only [file_reader_numbers.l0]; rw [if_neg (by omega)]) ?_
    exact Ev.now _
  | d + 1, i, hi => by
    have ih := numbers_go n hn s d (i + 1) (by omega)
    have hr := fN4_range (fNums i s).2
    have hl := fNums_len i s
    have e2 : wrap64 ((i : Int) + 1) = ((i + 1 : Nat) : Int) := by unfold wrap64; omega
    have e3 : wrap64 ((fN 4 0 (fNums i s).2).1 + (-2147483648)) = (fN 4 0 (fNums i s).2).1 - 2147483648 := by unfold wrap64; omega
    refine Ev.step (fun k => by simp only [file_reader_numbers.l0]; rw [if_pos (by omega)]) ?_
    refine Ev.bind (number4 _) ?_
    refine Ev.congr (fun k => by rw [if_pos (by omega), e2, e3]) ?_
    exact ih
theorem numbers_is (n : Nat) (hn : n ≤ 255) (s : ByteArray) : Ev (fun k => file_reader_numbers.f k s (n : Int)) (fNums n s) := numbers_go n hn s n 0 (by omega)
def cutM (n : Int) (s : ByteArray) : Nat := (mn n (s.size : Int)).toNat
def fName (s : ByteArray) : ByteArray × Int × ByteArray :=
  let a := fN 1 0 s
  let b := fN 1 0 (a.2.extract (cutM a.1 a.2) a.2.size)
  (a.2.extract 0 (cutM a.1 a.2), b.1, b.2)
theorem text_is (s : ByteArray) (n : Int) (hn : 0 ≤ n) : file_reader_text.f s n = some (s.extract 0 (cutM n s), s.extract (cutM n s) s.size) := by
  have h : 0 ≤ mn n (s.size : Int) ∧ mn n (s.size : Int) ≤ (s.size : Int) := by unfold mn; split <;> omega
  exact text_at s (cutM n s) n hn (by unfold cutM; omega) (by unfold cutM; omega)
theorem name_is (s : ByteArray) : Ev (fun k => file_reader_name.f k s) (fName s) := by
  unfold file_reader_name.f
  refine Ev.bind (number1 s) ?_
  refine Ev.congr (fun k => by rw [text_is _ _ (fN1_range s).1, Option.bind_some]) ?_
  refine Ev.bind (number1 _) ?_
  exact Ev.now _
def fLabs : Nat → ByteArray → List S57 × ByteArray
  | 0, s => ([], s)
  | n + 1, s => ((fLabs n s).1 ++ [⟨(fName (fLabs n s).2).1, (fName (fLabs n s).2).2.1⟩], (fName (fLabs n s).2).2.2)
def fImps : Nat → ByteArray → List S59 × ByteArray
  | 0, s => ([], s)
  | n + 1, s => ((fImps n s).1 ++ [⟨(fName (fImps n s).2).1, (fName (fImps n s).2).2.1⟩], (fName (fImps n s).2).2.2)
theorem fLabs_len (n : Nat) (s : ByteArray) : (fLabs n s).1.length = n := by induction n with | zero => rfl | succ n ih => simp [fLabs, ih]
theorem fImps_len (n : Nat) (s : ByteArray) : (fImps n s).1.length = n := by induction n with | zero => rfl | succ n ih => simp [fImps, ih]
def lastF (s : ByteArray) (c d : List Int) (e : List S57) (i : List S59) : List Int × List Int × List S57 × List S59 × Int :=
  if modCheck c d e i = 0 ∧ (packB c d e i).toList = s.toList then (c, d, e, i, 0) else ([], [], [], [], 5)
theorem imps_go (x0 : ByteArray) (c d : List Int) (e : List S57) (s : ByteArray) (n : Nat) (hn : n ≤ 255) : ∀ (m i : Nat), i + m = n → Ev (fun k => file_ReadAll.l1 k x0 (n : Int) (i : Int) (fImps i s).2 c d e (fImps i s).1) (lastF x0 c d e (fImps n s).1)
  | 0, i, hi => by
    obtain rfl : i = n := by omega
    refine Ev.step (fun k => by simp only [file_ReadAll.l1]; rw [if_neg (by omega)]) ?_
    unfold file_Pack.f lastF
    by_cases hm : modCheck c d e (fImps i s).1 = 0
    · by_cases hp : (packB c d e (fImps i s).1).toList = x0.toList
      · refine Ev.congr (fun k => by rw [if_pos hm, Option.bind_some, if_pos rfl, if_pos hp]) ?_
        rw [if_pos ⟨hm, hp⟩]
        exact Ev.now _
      · refine Ev.congr (fun k => by rw [if_pos hm, Option.bind_some, if_pos rfl, if_neg hp]) ?_
        rw [if_neg (fun h => hp h.2)]
        exact Ev.now _
    · refine Ev.congr (fun k => by rw [if_neg hm, Option.bind_some, if_neg hm]) ?_
      rw [if_neg (fun h => hm h.1)]
      exact Ev.now _
  | m + 1, i, hi => by
    have ih := imps_go x0 c d e s n hn m (i + 1) (by omega)
    have hl := fImps_len i s
    have e2 : wrap64 ((i : Int) + 1) = ((i + 1 : Nat) : Int) := by unfold wrap64; omega
    refine Ev.step (fun k => by simp only [file_ReadAll.l1]; rw [if_pos (by omega)]) ?_
    refine Ev.bind (name_is _) ?_
    refine Ev.congr (fun k => by rw [if_pos (by omega), e2]) ?_
    exact ih
theorem labs_go (x0 : ByteArray) (c d : List Int) (s : ByteArray) (n ni : Nat) (hn : n ≤ 255) (hni : ni ≤ 255) : ∀ (m i : Nat), i + m = n → Ev (fun k => file_ReadAll.l0 k x0 (ni : Int) (n : Int) (i : Int) (fLabs i s).2 c d (fLabs i s).1) (lastF x0 c d (fLabs n s).1 (fImps ni (fLabs n s).2).1)
  | 0, i, hi => by
    obtain rfl : i = n := by omega
    refine Ev.step (fun k => by simp only [file_ReadAll.l0]; rw [if_neg (by omega)]) ?_
    exact imps_go x0 c d _ (fLabs i s).2 ni hni ni 0 (by omega)
  | m + 1, i, hi => by
    have ih := labs_go x0 c d s n ni hn hni m (i + 1) (by omega)
    have hl := fLabs_len i s
    have e2 : wrap64 ((i : Int) + 1) = ((i + 1 : Nat) : Int) := by unfold wrap64; omega
    refine Ev.step (fun k => by simp only [file_ReadAll.l0]; rw [if_pos (by omega)]) ?_
    refine Ev.bind (name_is _) ?_
    refine Ev.congr (fun k => by rw [if_pos (by omega), e2]) ?_
    exact ih

end Go.Proofs.Ytljjdkjmciheeaa.P
