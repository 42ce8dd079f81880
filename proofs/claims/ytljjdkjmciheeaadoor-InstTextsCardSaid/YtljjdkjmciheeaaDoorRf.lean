/- Both texts of an instruction are the same; the law InstTexts. -/
import Derived.Test.YtljjdkjmciheeaaDoorRe
namespace Go.Proofs.YtljjdkjmciheeaaDoor.P
open Go.RowKit Go.Lib

def joinB (x : ByteArray) (r : List ByteArray) : ByteArray := r.foldl (fun acc y => acc ++ (⟨#[32]⟩ ++ y)) x
theorem joinB_data (r : List ByteArray) : ∀ x : ByteArray, (joinB x r).data.toList = x.data.toList ++ Lib.joinTail [32] (r.map (·.data.toList)) := by
  induction r with
  | nil => intro x; simp [joinB, Lib.joinTail]
  | cons y r ih =>
    intro x
    have h := ih (x ++ (⟨#[32]⟩ ++ y))
    show (joinB (x ++ (⟨#[32]⟩ ++ y)) r).data.toList = _
    rw [h]
    simp [Lib.joinTail]
theorem join_B (x : ByteArray) (r : List ByteArray) : (⟨(Lib.join ((x :: r).map (·.data.toList)) [32]).toArray⟩ : ByteArray) = joinB x r := by
  apply ByteArray.ext
  apply Array.toList_inj.1
  rw [joinB_data, List.map_cons, Lib.join_cons]
theorem blank_r (y : ByteArray) : (⟨#[32]⟩ : ByteArray) ++ (⟨#[114]⟩ ++ y) = ⟨#[32, 114]⟩ ++ y := by
  apply ByteArray.ext; simp

theorem fit_0 (a b c : Int) : (⟨(Lib.join ((doneW a b c (splitSp (tableB.getD 0 ⟨#[]⟩)) ((splitSp (tableB.getD 0 ⟨#[]⟩)).length - 1)).map (·.data.toList)) [32]).toArray⟩ : ByteArray) = instText ((shapeOf 0).getD noShape).word ((shapeOf 0).getD noShape).a ((shapeOf 0).getD noShape).b ((shapeOf 0).getD noShape).c a b c := by
  have e : splitSp (tableB.getD 0 ⟨#[]⟩) = [⟨#[104, 97, 108, 116]⟩] := by decide +kernel
  have s : (shapeOf 0).getD noShape = ⟨⟨#[104, 97, 108, 116]⟩, false, false, 0⟩ := rfl
  rw [e, s]
  have d : doneW a b c [⟨#[104, 97, 108, 116]⟩] 0 = [⟨#[104, 97, 108, 116]⟩] := rfl
  show (⟨(Lib.join ((doneW a b c [⟨#[104, 97, 108, 116]⟩] 0).map (·.data.toList)) [32]).toArray⟩ : ByteArray) = _
  rw [d, join_B]
  simp only [joinB, List.foldl_cons, List.foldl_nil, instText, addText, blank_r, Bool.false_eq_true, if_false, if_true]
  rfl

theorem fit_1 (a b c : Int) : (⟨(Lib.join ((doneW a b c (splitSp (tableB.getD 1 ⟨#[]⟩)) ((splitSp (tableB.getD 1 ⟨#[]⟩)).length - 1)).map (·.data.toList)) [32]).toArray⟩ : ByteArray) = instText ((shapeOf 1).getD noShape).word ((shapeOf 1).getD noShape).a ((shapeOf 1).getD noShape).b ((shapeOf 1).getD noShape).c a b c := by
  have e : splitSp (tableB.getD 1 ⟨#[]⟩) = [⟨#[115, 101, 116]⟩, ⟨#[65]⟩, ⟨#[110]⟩] := by decide +kernel
  have s : (shapeOf 1).getD noShape = ⟨⟨#[115, 101, 116]⟩, true, false, 110⟩ := rfl
  rw [e, s]
  have d : doneW a b c [⟨#[115, 101, 116]⟩, ⟨#[65]⟩, ⟨#[110]⟩] 2 = [⟨#[115, 101, 116]⟩, ⟨#[114]⟩ ++ itoaB a, itoaB c] := rfl
  show (⟨(Lib.join ((doneW a b c [⟨#[115, 101, 116]⟩, ⟨#[65]⟩, ⟨#[110]⟩] 2).map (·.data.toList)) [32]).toArray⟩ : ByteArray) = _
  rw [d, join_B]
  simp only [joinB, List.foldl_cons, List.foldl_nil, instText, addText, blank_r, Bool.false_eq_true, if_false, if_true]
  rfl

theorem fit_2 (a b c : Int) : (⟨(Lib.join ((doneW a b c (splitSp (tableB.getD 2 ⟨#[]⟩)) ((splitSp (tableB.getD 2 ⟨#[]⟩)).length - 1)).map (·.data.toList)) [32]).toArray⟩ : ByteArray) = instText ((shapeOf 2).getD noShape).word ((shapeOf 2).getD noShape).a ((shapeOf 2).getD noShape).b ((shapeOf 2).getD noShape).c a b c := by
  have e : splitSp (tableB.getD 2 ⟨#[]⟩) = [⟨#[99, 111, 112, 121]⟩, ⟨#[65]⟩, ⟨#[66]⟩] := by decide +kernel
  have s : (shapeOf 2).getD noShape = ⟨⟨#[99, 111, 112, 121]⟩, true, true, 0⟩ := rfl
  rw [e, s]
  have d : doneW a b c [⟨#[99, 111, 112, 121]⟩, ⟨#[65]⟩, ⟨#[66]⟩] 2 = [⟨#[99, 111, 112, 121]⟩, ⟨#[114]⟩ ++ itoaB a, ⟨#[114]⟩ ++ itoaB b] := rfl
  show (⟨(Lib.join ((doneW a b c [⟨#[99, 111, 112, 121]⟩, ⟨#[65]⟩, ⟨#[66]⟩] 2).map (·.data.toList)) [32]).toArray⟩ : ByteArray) = _
  rw [d, join_B]
  simp only [joinB, List.foldl_cons, List.foldl_nil, instText, addText, blank_r, Bool.false_eq_true, if_false, if_true]
  rfl

theorem fit_3 (a b c : Int) : (⟨(Lib.join ((doneW a b c (splitSp (tableB.getD 3 ⟨#[]⟩)) ((splitSp (tableB.getD 3 ⟨#[]⟩)).length - 1)).map (·.data.toList)) [32]).toArray⟩ : ByteArray) = instText ((shapeOf 3).getD noShape).word ((shapeOf 3).getD noShape).a ((shapeOf 3).getD noShape).b ((shapeOf 3).getD noShape).c a b c := by
  have e : splitSp (tableB.getD 3 ⟨#[]⟩) = [⟨#[97, 100, 100]⟩, ⟨#[65]⟩, ⟨#[66]⟩, ⟨#[114]⟩] := by decide +kernel
  have s : (shapeOf 3).getD noShape = ⟨⟨#[97, 100, 100]⟩, true, true, 114⟩ := rfl
  rw [e, s]
  have d : doneW a b c [⟨#[97, 100, 100]⟩, ⟨#[65]⟩, ⟨#[66]⟩, ⟨#[114]⟩] 3 = [⟨#[97, 100, 100]⟩, ⟨#[114]⟩ ++ itoaB a, ⟨#[114]⟩ ++ itoaB b, ⟨#[114]⟩ ++ itoaB c] := rfl
  show (⟨(Lib.join ((doneW a b c [⟨#[97, 100, 100]⟩, ⟨#[65]⟩, ⟨#[66]⟩, ⟨#[114]⟩] 3).map (·.data.toList)) [32]).toArray⟩ : ByteArray) = _
  rw [d, join_B]
  simp only [joinB, List.foldl_cons, List.foldl_nil, instText, addText, blank_r, Bool.false_eq_true, if_false, if_true]
  rfl

theorem fit_4 (a b c : Int) : (⟨(Lib.join ((doneW a b c (splitSp (tableB.getD 4 ⟨#[]⟩)) ((splitSp (tableB.getD 4 ⟨#[]⟩)).length - 1)).map (·.data.toList)) [32]).toArray⟩ : ByteArray) = instText ((shapeOf 4).getD noShape).word ((shapeOf 4).getD noShape).a ((shapeOf 4).getD noShape).b ((shapeOf 4).getD noShape).c a b c := by
  have e : splitSp (tableB.getD 4 ⟨#[]⟩) = [⟨#[115, 117, 98]⟩, ⟨#[65]⟩, ⟨#[66]⟩, ⟨#[114]⟩] := by decide +kernel
  have s : (shapeOf 4).getD noShape = ⟨⟨#[115, 117, 98]⟩, true, true, 114⟩ := rfl
  rw [e, s]
  have d : doneW a b c [⟨#[115, 117, 98]⟩, ⟨#[65]⟩, ⟨#[66]⟩, ⟨#[114]⟩] 3 = [⟨#[115, 117, 98]⟩, ⟨#[114]⟩ ++ itoaB a, ⟨#[114]⟩ ++ itoaB b, ⟨#[114]⟩ ++ itoaB c] := rfl
  show (⟨(Lib.join ((doneW a b c [⟨#[115, 117, 98]⟩, ⟨#[65]⟩, ⟨#[66]⟩, ⟨#[114]⟩] 3).map (·.data.toList)) [32]).toArray⟩ : ByteArray) = _
  rw [d, join_B]
  simp only [joinB, List.foldl_cons, List.foldl_nil, instText, addText, blank_r, Bool.false_eq_true, if_false, if_true]
  rfl

theorem fit_5 (a b c : Int) : (⟨(Lib.join ((doneW a b c (splitSp (tableB.getD 5 ⟨#[]⟩)) ((splitSp (tableB.getD 5 ⟨#[]⟩)).length - 1)).map (·.data.toList)) [32]).toArray⟩ : ByteArray) = instText ((shapeOf 5).getD noShape).word ((shapeOf 5).getD noShape).a ((shapeOf 5).getD noShape).b ((shapeOf 5).getD noShape).c a b c := by
  have e : splitSp (tableB.getD 5 ⟨#[]⟩) = [⟨#[109, 117, 108]⟩, ⟨#[65]⟩, ⟨#[66]⟩, ⟨#[114]⟩] := by decide +kernel
  have s : (shapeOf 5).getD noShape = ⟨⟨#[109, 117, 108]⟩, true, true, 114⟩ := rfl
  rw [e, s]
  have d : doneW a b c [⟨#[109, 117, 108]⟩, ⟨#[65]⟩, ⟨#[66]⟩, ⟨#[114]⟩] 3 = [⟨#[109, 117, 108]⟩, ⟨#[114]⟩ ++ itoaB a, ⟨#[114]⟩ ++ itoaB b, ⟨#[114]⟩ ++ itoaB c] := rfl
  show (⟨(Lib.join ((doneW a b c [⟨#[109, 117, 108]⟩, ⟨#[65]⟩, ⟨#[66]⟩, ⟨#[114]⟩] 3).map (·.data.toList)) [32]).toArray⟩ : ByteArray) = _
  rw [d, join_B]
  simp only [joinB, List.foldl_cons, List.foldl_nil, instText, addText, blank_r, Bool.false_eq_true, if_false, if_true]
  rfl

theorem fit_6 (a b c : Int) : (⟨(Lib.join ((doneW a b c (splitSp (tableB.getD 6 ⟨#[]⟩)) ((splitSp (tableB.getD 6 ⟨#[]⟩)).length - 1)).map (·.data.toList)) [32]).toArray⟩ : ByteArray) = instText ((shapeOf 6).getD noShape).word ((shapeOf 6).getD noShape).a ((shapeOf 6).getD noShape).b ((shapeOf 6).getD noShape).c a b c := by
  have e : splitSp (tableB.getD 6 ⟨#[]⟩) = [⟨#[100, 105, 118]⟩, ⟨#[65]⟩, ⟨#[66]⟩, ⟨#[114]⟩] := by decide +kernel
  have s : (shapeOf 6).getD noShape = ⟨⟨#[100, 105, 118]⟩, true, true, 114⟩ := rfl
  rw [e, s]
  have d : doneW a b c [⟨#[100, 105, 118]⟩, ⟨#[65]⟩, ⟨#[66]⟩, ⟨#[114]⟩] 3 = [⟨#[100, 105, 118]⟩, ⟨#[114]⟩ ++ itoaB a, ⟨#[114]⟩ ++ itoaB b, ⟨#[114]⟩ ++ itoaB c] := rfl
  show (⟨(Lib.join ((doneW a b c [⟨#[100, 105, 118]⟩, ⟨#[65]⟩, ⟨#[66]⟩, ⟨#[114]⟩] 3).map (·.data.toList)) [32]).toArray⟩ : ByteArray) = _
  rw [d, join_B]
  simp only [joinB, List.foldl_cons, List.foldl_nil, instText, addText, blank_r, Bool.false_eq_true, if_false, if_true]
  rfl

theorem fit_7 (a b c : Int) : (⟨(Lib.join ((doneW a b c (splitSp (tableB.getD 7 ⟨#[]⟩)) ((splitSp (tableB.getD 7 ⟨#[]⟩)).length - 1)).map (·.data.toList)) [32]).toArray⟩ : ByteArray) = instText ((shapeOf 7).getD noShape).word ((shapeOf 7).getD noShape).a ((shapeOf 7).getD noShape).b ((shapeOf 7).getD noShape).c a b c := by
  have e : splitSp (tableB.getD 7 ⟨#[]⟩) = [⟨#[108, 101, 115, 115]⟩, ⟨#[65]⟩, ⟨#[66]⟩, ⟨#[114]⟩] := by decide +kernel
  have s : (shapeOf 7).getD noShape = ⟨⟨#[108, 101, 115, 115]⟩, true, true, 114⟩ := rfl
  rw [e, s]
  have d : doneW a b c [⟨#[108, 101, 115, 115]⟩, ⟨#[65]⟩, ⟨#[66]⟩, ⟨#[114]⟩] 3 = [⟨#[108, 101, 115, 115]⟩, ⟨#[114]⟩ ++ itoaB a, ⟨#[114]⟩ ++ itoaB b, ⟨#[114]⟩ ++ itoaB c] := rfl
  show (⟨(Lib.join ((doneW a b c [⟨#[108, 101, 115, 115]⟩, ⟨#[65]⟩, ⟨#[66]⟩, ⟨#[114]⟩] 3).map (·.data.toList)) [32]).toArray⟩ : ByteArray) = _
  rw [d, join_B]
  simp only [joinB, List.foldl_cons, List.foldl_nil, instText, addText, blank_r, Bool.false_eq_true, if_false, if_true]
  rfl

theorem fit_8 (a b c : Int) : (⟨(Lib.join ((doneW a b c (splitSp (tableB.getD 8 ⟨#[]⟩)) ((splitSp (tableB.getD 8 ⟨#[]⟩)).length - 1)).map (·.data.toList)) [32]).toArray⟩ : ByteArray) = instText ((shapeOf 8).getD noShape).word ((shapeOf 8).getD noShape).a ((shapeOf 8).getD noShape).b ((shapeOf 8).getD noShape).c a b c := by
  have e : splitSp (tableB.getD 8 ⟨#[]⟩) = [⟨#[106, 117, 109, 112]⟩, ⟨#[110]⟩] := by decide +kernel
  have s : (shapeOf 8).getD noShape = ⟨⟨#[106, 117, 109, 112]⟩, false, false, 110⟩ := rfl
  rw [e, s]
  have d : doneW a b c [⟨#[106, 117, 109, 112]⟩, ⟨#[110]⟩] 1 = [⟨#[106, 117, 109, 112]⟩, itoaB c] := rfl
  show (⟨(Lib.join ((doneW a b c [⟨#[106, 117, 109, 112]⟩, ⟨#[110]⟩] 1).map (·.data.toList)) [32]).toArray⟩ : ByteArray) = _
  rw [d, join_B]
  simp only [joinB, List.foldl_cons, List.foldl_nil, instText, addText, blank_r, Bool.false_eq_true, if_false, if_true]
  rfl

theorem fit_9 (a b c : Int) : (⟨(Lib.join ((doneW a b c (splitSp (tableB.getD 9 ⟨#[]⟩)) ((splitSp (tableB.getD 9 ⟨#[]⟩)).length - 1)).map (·.data.toList)) [32]).toArray⟩ : ByteArray) = instText ((shapeOf 9).getD noShape).word ((shapeOf 9).getD noShape).a ((shapeOf 9).getD noShape).b ((shapeOf 9).getD noShape).c a b c := by
  have e : splitSp (tableB.getD 9 ⟨#[]⟩) = [⟨#[105, 102]⟩, ⟨#[65]⟩, ⟨#[110]⟩] := by decide +kernel
  have s : (shapeOf 9).getD noShape = ⟨⟨#[105, 102]⟩, true, false, 110⟩ := rfl
  rw [e, s]
  have d : doneW a b c [⟨#[105, 102]⟩, ⟨#[65]⟩, ⟨#[110]⟩] 2 = [⟨#[105, 102]⟩, ⟨#[114]⟩ ++ itoaB a, itoaB c] := rfl
  show (⟨(Lib.join ((doneW a b c [⟨#[105, 102]⟩, ⟨#[65]⟩, ⟨#[110]⟩] 2).map (·.data.toList)) [32]).toArray⟩ : ByteArray) = _
  rw [d, join_B]
  simp only [joinB, List.foldl_cons, List.foldl_nil, instText, addText, blank_r, Bool.false_eq_true, if_false, if_true]
  rfl

theorem fit_10 (a b c : Int) : (⟨(Lib.join ((doneW a b c (splitSp (tableB.getD 10 ⟨#[]⟩)) ((splitSp (tableB.getD 10 ⟨#[]⟩)).length - 1)).map (·.data.toList)) [32]).toArray⟩ : ByteArray) = instText ((shapeOf 10).getD noShape).word ((shapeOf 10).getD noShape).a ((shapeOf 10).getD noShape).b ((shapeOf 10).getD noShape).c a b c := by
  have e : splitSp (tableB.getD 10 ⟨#[]⟩) = [⟨#[108, 111, 97, 100]⟩, ⟨#[65]⟩, ⟨#[66]⟩, ⟨#[110]⟩] := by decide +kernel
  have s : (shapeOf 10).getD noShape = ⟨⟨#[108, 111, 97, 100]⟩, true, true, 110⟩ := rfl
  rw [e, s]
  have d : doneW a b c [⟨#[108, 111, 97, 100]⟩, ⟨#[65]⟩, ⟨#[66]⟩, ⟨#[110]⟩] 3 = [⟨#[108, 111, 97, 100]⟩, ⟨#[114]⟩ ++ itoaB a, ⟨#[114]⟩ ++ itoaB b, itoaB c] := rfl
  show (⟨(Lib.join ((doneW a b c [⟨#[108, 111, 97, 100]⟩, ⟨#[65]⟩, ⟨#[66]⟩, ⟨#[110]⟩] 3).map (·.data.toList)) [32]).toArray⟩ : ByteArray) = _
  rw [d, join_B]
  simp only [joinB, List.foldl_cons, List.foldl_nil, instText, addText, blank_r, Bool.false_eq_true, if_false, if_true]
  rfl

theorem fit_11 (a b c : Int) : (⟨(Lib.join ((doneW a b c (splitSp (tableB.getD 11 ⟨#[]⟩)) ((splitSp (tableB.getD 11 ⟨#[]⟩)).length - 1)).map (·.data.toList)) [32]).toArray⟩ : ByteArray) = instText ((shapeOf 11).getD noShape).word ((shapeOf 11).getD noShape).a ((shapeOf 11).getD noShape).b ((shapeOf 11).getD noShape).c a b c := by
  have e : splitSp (tableB.getD 11 ⟨#[]⟩) = [⟨#[115, 116, 111, 114, 101]⟩, ⟨#[65]⟩, ⟨#[66]⟩, ⟨#[110]⟩] := by decide +kernel
  have s : (shapeOf 11).getD noShape = ⟨⟨#[115, 116, 111, 114, 101]⟩, true, true, 110⟩ := rfl
  rw [e, s]
  have d : doneW a b c [⟨#[115, 116, 111, 114, 101]⟩, ⟨#[65]⟩, ⟨#[66]⟩, ⟨#[110]⟩] 3 = [⟨#[115, 116, 111, 114, 101]⟩, ⟨#[114]⟩ ++ itoaB a, ⟨#[114]⟩ ++ itoaB b, itoaB c] := rfl
  show (⟨(Lib.join ((doneW a b c [⟨#[115, 116, 111, 114, 101]⟩, ⟨#[65]⟩, ⟨#[66]⟩, ⟨#[110]⟩] 3).map (·.data.toList)) [32]).toArray⟩ : ByteArray) = _
  rw [d, join_B]
  simp only [joinB, List.foldl_cons, List.foldl_nil, instText, addText, blank_r, Bool.false_eq_true, if_false, if_true]
  rfl

theorem fit_12 (a b c : Int) : (⟨(Lib.join ((doneW a b c (splitSp (tableB.getD 12 ⟨#[]⟩)) ((splitSp (tableB.getD 12 ⟨#[]⟩)).length - 1)).map (·.data.toList)) [32]).toArray⟩ : ByteArray) = instText ((shapeOf 12).getD noShape).word ((shapeOf 12).getD noShape).a ((shapeOf 12).getD noShape).b ((shapeOf 12).getD noShape).c a b c := by
  have e : splitSp (tableB.getD 12 ⟨#[]⟩) = [⟨#[109, 111, 118, 101]⟩, ⟨#[65]⟩, ⟨#[66]⟩, ⟨#[114]⟩] := by decide +kernel
  have s : (shapeOf 12).getD noShape = ⟨⟨#[109, 111, 118, 101]⟩, true, true, 114⟩ := rfl
  rw [e, s]
  have d : doneW a b c [⟨#[109, 111, 118, 101]⟩, ⟨#[65]⟩, ⟨#[66]⟩, ⟨#[114]⟩] 3 = [⟨#[109, 111, 118, 101]⟩, ⟨#[114]⟩ ++ itoaB a, ⟨#[114]⟩ ++ itoaB b, ⟨#[114]⟩ ++ itoaB c] := rfl
  show (⟨(Lib.join ((doneW a b c [⟨#[109, 111, 118, 101]⟩, ⟨#[65]⟩, ⟨#[66]⟩, ⟨#[114]⟩] 3).map (·.data.toList)) [32]).toArray⟩ : ByteArray) = _
  rw [d, join_B]
  simp only [joinB, List.foldl_cons, List.foldl_nil, instText, addText, blank_r, Bool.false_eq_true, if_false, if_true]
  rfl

theorem fit_13 (a b c : Int) : (⟨(Lib.join ((doneW a b c (splitSp (tableB.getD 13 ⟨#[]⟩)) ((splitSp (tableB.getD 13 ⟨#[]⟩)).length - 1)).map (·.data.toList)) [32]).toArray⟩ : ByteArray) = instText ((shapeOf 13).getD noShape).word ((shapeOf 13).getD noShape).a ((shapeOf 13).getD noShape).b ((shapeOf 13).getD noShape).c a b c := by
  have e : splitSp (tableB.getD 13 ⟨#[]⟩) = [⟨#[110, 97, 114, 114, 111, 119]⟩, ⟨#[65]⟩, ⟨#[66]⟩, ⟨#[114]⟩] := by decide +kernel
  have s : (shapeOf 13).getD noShape = ⟨⟨#[110, 97, 114, 114, 111, 119]⟩, true, true, 114⟩ := rfl
  rw [e, s]
  have d : doneW a b c [⟨#[110, 97, 114, 114, 111, 119]⟩, ⟨#[65]⟩, ⟨#[66]⟩, ⟨#[114]⟩] 3 = [⟨#[110, 97, 114, 114, 111, 119]⟩, ⟨#[114]⟩ ++ itoaB a, ⟨#[114]⟩ ++ itoaB b, ⟨#[114]⟩ ++ itoaB c] := rfl
  show (⟨(Lib.join ((doneW a b c [⟨#[110, 97, 114, 114, 111, 119]⟩, ⟨#[65]⟩, ⟨#[66]⟩, ⟨#[114]⟩] 3).map (·.data.toList)) [32]).toArray⟩ : ByteArray) = _
  rw [d, join_B]
  simp only [joinB, List.foldl_cons, List.foldl_nil, instText, addText, blank_r, Bool.false_eq_true, if_false, if_true]
  rfl

theorem fit_14 (a b c : Int) : (⟨(Lib.join ((doneW a b c (splitSp (tableB.getD 14 ⟨#[]⟩)) ((splitSp (tableB.getD 14 ⟨#[]⟩)).length - 1)).map (·.data.toList)) [32]).toArray⟩ : ByteArray) = instText ((shapeOf 14).getD noShape).word ((shapeOf 14).getD noShape).a ((shapeOf 14).getD noShape).b ((shapeOf 14).getD noShape).c a b c := by
  have e : splitSp (tableB.getD 14 ⟨#[]⟩) = [⟨#[100, 114, 111, 112]⟩, ⟨#[65]⟩, ⟨#[66]⟩, ⟨#[112]⟩] := by decide +kernel
  have s : (shapeOf 14).getD noShape = ⟨⟨#[100, 114, 111, 112]⟩, true, true, 112⟩ := rfl
  rw [e, s]
  have d : doneW a b c [⟨#[100, 114, 111, 112]⟩, ⟨#[65]⟩, ⟨#[66]⟩, ⟨#[112]⟩] 3 = [⟨#[100, 114, 111, 112]⟩, ⟨#[114]⟩ ++ itoaB a, ⟨#[114]⟩ ++ itoaB b, itoaB c] := rfl
  show (⟨(Lib.join ((doneW a b c [⟨#[100, 114, 111, 112]⟩, ⟨#[65]⟩, ⟨#[66]⟩, ⟨#[112]⟩] 3).map (·.data.toList)) [32]).toArray⟩ : ByteArray) = _
  rw [d, join_B]
  simp only [joinB, List.foldl_cons, List.foldl_nil, instText, addText, blank_r, Bool.false_eq_true, if_false, if_true]
  rfl

theorem fit_15 (a b c : Int) : (⟨(Lib.join ((doneW a b c (splitSp (tableB.getD 15 ⟨#[]⟩)) ((splitSp (tableB.getD 15 ⟨#[]⟩)).length - 1)).map (·.data.toList)) [32]).toArray⟩ : ByteArray) = instText ((shapeOf 15).getD noShape).word ((shapeOf 15).getD noShape).a ((shapeOf 15).getD noShape).b ((shapeOf 15).getD noShape).c a b c := by
  have e : splitSp (tableB.getD 15 ⟨#[]⟩) = [⟨#[115, 101, 97, 108]⟩, ⟨#[65]⟩, ⟨#[66]⟩, ⟨#[114]⟩] := by decide +kernel
  have s : (shapeOf 15).getD noShape = ⟨⟨#[115, 101, 97, 108]⟩, true, true, 114⟩ := rfl
  rw [e, s]
  have d : doneW a b c [⟨#[115, 101, 97, 108]⟩, ⟨#[65]⟩, ⟨#[66]⟩, ⟨#[114]⟩] 3 = [⟨#[115, 101, 97, 108]⟩, ⟨#[114]⟩ ++ itoaB a, ⟨#[114]⟩ ++ itoaB b, ⟨#[114]⟩ ++ itoaB c] := rfl
  show (⟨(Lib.join ((doneW a b c [⟨#[115, 101, 97, 108]⟩, ⟨#[65]⟩, ⟨#[66]⟩, ⟨#[114]⟩] 3).map (·.data.toList)) [32]).toArray⟩ : ByteArray) = _
  rw [d, join_B]
  simp only [joinB, List.foldl_cons, List.foldl_nil, instText, addText, blank_r, Bool.false_eq_true, if_false, if_true]
  rfl

theorem fit_16 (a b c : Int) : (⟨(Lib.join ((doneW a b c (splitSp (tableB.getD 16 ⟨#[]⟩)) ((splitSp (tableB.getD 16 ⟨#[]⟩)).length - 1)).map (·.data.toList)) [32]).toArray⟩ : ByteArray) = instText ((shapeOf 16).getD noShape).word ((shapeOf 16).getD noShape).a ((shapeOf 16).getD noShape).b ((shapeOf 16).getD noShape).c a b c := by
  have e : splitSp (tableB.getD 16 ⟨#[]⟩) = [⟨#[111, 112, 101, 110]⟩, ⟨#[65]⟩, ⟨#[66]⟩, ⟨#[114]⟩] := by decide +kernel
  have s : (shapeOf 16).getD noShape = ⟨⟨#[111, 112, 101, 110]⟩, true, true, 114⟩ := rfl
  rw [e, s]
  have d : doneW a b c [⟨#[111, 112, 101, 110]⟩, ⟨#[65]⟩, ⟨#[66]⟩, ⟨#[114]⟩] 3 = [⟨#[111, 112, 101, 110]⟩, ⟨#[114]⟩ ++ itoaB a, ⟨#[114]⟩ ++ itoaB b, ⟨#[114]⟩ ++ itoaB c] := rfl
  show (⟨(Lib.join ((doneW a b c [⟨#[111, 112, 101, 110]⟩, ⟨#[65]⟩, ⟨#[66]⟩, ⟨#[114]⟩] 3).map (·.data.toList)) [32]).toArray⟩ : ByteArray) = _
  rw [d, join_B]
  simp only [joinB, List.foldl_cons, List.foldl_nil, instText, addText, blank_r, Bool.false_eq_true, if_false, if_true]
  rfl

theorem fit_17 (a b c : Int) : (⟨(Lib.join ((doneW a b c (splitSp (tableB.getD 17 ⟨#[]⟩)) ((splitSp (tableB.getD 17 ⟨#[]⟩)).length - 1)).map (·.data.toList)) [32]).toArray⟩ : ByteArray) = instText ((shapeOf 17).getD noShape).word ((shapeOf 17).getD noShape).a ((shapeOf 17).getD noShape).b ((shapeOf 17).getD noShape).c a b c := by
  have e : splitSp (tableB.getD 17 ⟨#[]⟩) = [⟨#[97, 115, 107]⟩, ⟨#[65]⟩, ⟨#[66]⟩, ⟨#[113]⟩] := by decide +kernel
  have s : (shapeOf 17).getD noShape = ⟨⟨#[97, 115, 107]⟩, true, true, 113⟩ := rfl
  rw [e, s]
  have d : doneW a b c [⟨#[97, 115, 107]⟩, ⟨#[65]⟩, ⟨#[66]⟩, ⟨#[113]⟩] 3 = [⟨#[97, 115, 107]⟩, ⟨#[114]⟩ ++ itoaB a, ⟨#[114]⟩ ++ itoaB b, itoaB c] := rfl
  show (⟨(Lib.join ((doneW a b c [⟨#[97, 115, 107]⟩, ⟨#[65]⟩, ⟨#[66]⟩, ⟨#[113]⟩] 3).map (·.data.toList)) [32]).toArray⟩ : ByteArray) = _
  rw [d, join_B]
  simp only [joinB, List.foldl_cons, List.foldl_nil, instText, addText, blank_r, Bool.false_eq_true, if_false, if_true]
  rfl

theorem fit_18 (a b c : Int) : (⟨(Lib.join ((doneW a b c (splitSp (tableB.getD 18 ⟨#[]⟩)) ((splitSp (tableB.getD 18 ⟨#[]⟩)).length - 1)).map (·.data.toList)) [32]).toArray⟩ : ByteArray) = instText ((shapeOf 18).getD noShape).word ((shapeOf 18).getD noShape).a ((shapeOf 18).getD noShape).b ((shapeOf 18).getD noShape).c a b c := by
  have e : splitSp (tableB.getD 18 ⟨#[]⟩) = [⟨#[99, 97, 108, 108]⟩, ⟨#[65]⟩, ⟨#[66]⟩] := by decide +kernel
  have s : (shapeOf 18).getD noShape = ⟨⟨#[99, 97, 108, 108]⟩, true, true, 0⟩ := rfl
  rw [e, s]
  have d : doneW a b c [⟨#[99, 97, 108, 108]⟩, ⟨#[65]⟩, ⟨#[66]⟩] 2 = [⟨#[99, 97, 108, 108]⟩, ⟨#[114]⟩ ++ itoaB a, ⟨#[114]⟩ ++ itoaB b] := rfl
  show (⟨(Lib.join ((doneW a b c [⟨#[99, 97, 108, 108]⟩, ⟨#[65]⟩, ⟨#[66]⟩] 2).map (·.data.toList)) [32]).toArray⟩ : ByteArray) = _
  rw [d, join_B]
  simp only [joinB, List.foldl_cons, List.foldl_nil, instText, addText, blank_r, Bool.false_eq_true, if_false, if_true]
  rfl

theorem fit_19 (a b c : Int) : (⟨(Lib.join ((doneW a b c (splitSp (tableB.getD 19 ⟨#[]⟩)) ((splitSp (tableB.getD 19 ⟨#[]⟩)).length - 1)).map (·.data.toList)) [32]).toArray⟩ : ByteArray) = instText ((shapeOf 19).getD noShape).word ((shapeOf 19).getD noShape).a ((shapeOf 19).getD noShape).b ((shapeOf 19).getD noShape).c a b c := by
  have e : splitSp (tableB.getD 19 ⟨#[]⟩) = [⟨#[98, 97, 99, 107]⟩] := by decide +kernel
  have s : (shapeOf 19).getD noShape = ⟨⟨#[98, 97, 99, 107]⟩, false, false, 0⟩ := rfl
  rw [e, s]
  have d : doneW a b c [⟨#[98, 97, 99, 107]⟩] 0 = [⟨#[98, 97, 99, 107]⟩] := rfl
  show (⟨(Lib.join ((doneW a b c [⟨#[98, 97, 99, 107]⟩] 0).map (·.data.toList)) [32]).toArray⟩ : ByteArray) = _
  rw [d, join_B]
  simp only [joinB, List.foldl_cons, List.foldl_nil, instText, addText, blank_r, Bool.false_eq_true, if_false, if_true]
  rfl

theorem fit_20 (a b c : Int) : (⟨(Lib.join ((doneW a b c (splitSp (tableB.getD 20 ⟨#[]⟩)) ((splitSp (tableB.getD 20 ⟨#[]⟩)).length - 1)).map (·.data.toList)) [32]).toArray⟩ : ByteArray) = instText ((shapeOf 20).getD noShape).word ((shapeOf 20).getD noShape).a ((shapeOf 20).getD noShape).b ((shapeOf 20).getD noShape).c a b c := by
  have e : splitSp (tableB.getD 20 ⟨#[]⟩) = [⟨#[104, 101, 114, 101]⟩, ⟨#[65]⟩] := by decide +kernel
  have s : (shapeOf 20).getD noShape = ⟨⟨#[104, 101, 114, 101]⟩, true, false, 0⟩ := rfl
  rw [e, s]
  have d : doneW a b c [⟨#[104, 101, 114, 101]⟩, ⟨#[65]⟩] 1 = [⟨#[104, 101, 114, 101]⟩, ⟨#[114]⟩ ++ itoaB a] := rfl
  show (⟨(Lib.join ((doneW a b c [⟨#[104, 101, 114, 101]⟩, ⟨#[65]⟩] 1).map (·.data.toList)) [32]).toArray⟩ : ByteArray) = _
  rw [d, join_B]
  simp only [joinB, List.foldl_cons, List.foldl_nil, instText, addText, blank_r, Bool.false_eq_true, if_false, if_true]
  rfl

theorem fit_21 (a b c : Int) : (⟨(Lib.join ((doneW a b c (splitSp (tableB.getD 21 ⟨#[]⟩)) ((splitSp (tableB.getD 21 ⟨#[]⟩)).length - 1)).map (·.data.toList)) [32]).toArray⟩ : ByteArray) = instText ((shapeOf 21).getD noShape).word ((shapeOf 21).getD noShape).a ((shapeOf 21).getD noShape).b ((shapeOf 21).getD noShape).c a b c := by
  have e : splitSp (tableB.getD 21 ⟨#[]⟩) = [⟨#[99, 108, 101, 97, 114]⟩, ⟨#[109]⟩] := by decide +kernel
  have s : (shapeOf 21).getD noShape = ⟨⟨#[99, 108, 101, 97, 114]⟩, false, false, 109⟩ := rfl
  rw [e, s]
  have d : doneW a b c [⟨#[99, 108, 101, 97, 114]⟩, ⟨#[109]⟩] 1 = [⟨#[99, 108, 101, 97, 114]⟩, itoaB c] := rfl
  show (⟨(Lib.join ((doneW a b c [⟨#[99, 108, 101, 97, 114]⟩, ⟨#[109]⟩] 1).map (·.data.toList)) [32]).toArray⟩ : ByteArray) = _
  rw [d, join_B]
  simp only [joinB, List.foldl_cons, List.foldl_nil, instText, addText, blank_r, Bool.false_eq_true, if_false, if_true]
  rfl

theorem fit_22 (a b c : Int) : (⟨(Lib.join ((doneW a b c (splitSp (tableB.getD 22 ⟨#[]⟩)) ((splitSp (tableB.getD 22 ⟨#[]⟩)).length - 1)).map (·.data.toList)) [32]).toArray⟩ : ByteArray) = instText ((shapeOf 22).getD noShape).word ((shapeOf 22).getD noShape).a ((shapeOf 22).getD noShape).b ((shapeOf 22).getD noShape).c a b c := by
  have e : splitSp (tableB.getD 22 ⟨#[]⟩) = [⟨#[116, 101, 108, 108]⟩, ⟨#[65]⟩] := by decide +kernel
  have s : (shapeOf 22).getD noShape = ⟨⟨#[116, 101, 108, 108]⟩, true, false, 0⟩ := rfl
  rw [e, s]
  have d : doneW a b c [⟨#[116, 101, 108, 108]⟩, ⟨#[65]⟩] 1 = [⟨#[116, 101, 108, 108]⟩, ⟨#[114]⟩ ++ itoaB a] := rfl
  show (⟨(Lib.join ((doneW a b c [⟨#[116, 101, 108, 108]⟩, ⟨#[65]⟩] 1).map (·.data.toList)) [32]).toArray⟩ : ByteArray) = _
  rw [d, join_B]
  simp only [joinB, List.foldl_cons, List.foldl_nil, instText, addText, blank_r, Bool.false_eq_true, if_false, if_true]
  rfl

theorem fit_any (n : Nat) (h : n < 23) (a b c : Int) : (⟨(Lib.join ((doneW a b c (splitSp (tableB.getD n ⟨#[]⟩)) ((splitSp (tableB.getD n ⟨#[]⟩)).length - 1)).map (·.data.toList)) [32]).toArray⟩ : ByteArray) = instText ((shapeOf n).getD noShape).word ((shapeOf n).getD noShape).a ((shapeOf n).getD noShape).b ((shapeOf n).getD noShape).c a b c := by
  have hc : n = 0 ∨ n = 1 ∨ n = 2 ∨ n = 3 ∨ n = 4 ∨ n = 5 ∨ n = 6 ∨ n = 7 ∨ n = 8 ∨ n = 9 ∨ n = 10 ∨ n = 11 ∨ n = 12 ∨ n = 13 ∨ n = 14 ∨ n = 15 ∨ n = 16 ∨ n = 17 ∨ n = 18 ∨ n = 19 ∨ n = 20 ∨ n = 21 ∨ n = 22 := by omega
  rcases hc with rfl | rfl | rfl | rfl | rfl | rfl | rfl | rfl | rfl | rfl | rfl | rfl | rfl | rfl | rfl | rfl | rfl | rfl | rfl | rfl | rfl | rfl | rfl
  · exact fit_0 a b c
  · exact fit_1 a b c
  · exact fit_2 a b c
  · exact fit_3 a b c
  · exact fit_4 a b c
  · exact fit_5 a b c
  · exact fit_6 a b c
  · exact fit_7 a b c
  · exact fit_8 a b c
  · exact fit_9 a b c
  · exact fit_10 a b c
  · exact fit_11 a b c
  · exact fit_12 a b c
  · exact fit_13 a b c
  · exact fit_14 a b c
  · exact fit_15 a b c
  · exact fit_16 a b c
  · exact fit_17 a b c
  · exact fit_18 a b c
  · exact fit_19 a b c
  · exact fit_20 a b c
  · exact fit_21 a b c
  · exact fit_22 a b c

theorem chk_op {op a b c : Int} (h : chk op a b c = true) : 0 ≤ op ∧ op < 23 := by
  by_cases h2 : op < 0 ∨ 23 ≤ op
  · have e : shapeOf op = none := by
      unfold shapeOf
      split
      · exact List.getElem?_eq_none (by simp [shapeTab]; omega)
      · rfl
    simp [chk, e] at h
  · omega
/-- The reference's InstText gives what inst.Text gives. -/
theorem rtext_any (op a b c : Int) (ha : -9223372036854775808 ≤ a ∧ a ≤ 9223372036854775807) (hb : -9223372036854775808 ≤ b ∧ b ≤ 9223372036854775807) (hc : -9223372036854775808 ≤ c ∧ c ≤ 9223372036854775807) (w : World) (hl : LaidW w) :
    Calls Tryd.prog 12 #[.agg #[.int .i64 op, .int .i64 a, .int .i64 b, .int .i64 c]] w fun e w' => e = .returned (.tuple #[.string (textB op a b c), .int .i64 (chkE (chk op a b c))]) ∧ Below w.heap.size w w' := by
  unfold textB
  cases hk : chk op a b c
  · exact rtext_no op a b c hk w hl
  · have ho := chk_op hk
    obtain ⟨n, rfl⟩ : ∃ n : Nat, op = (n : Int) := ⟨op.toNat, by omega⟩
    have hn : n < 23 := by omega
    obtain ⟨_, f2, f3, f4, _⟩ := rows_fit ⟨n, hn⟩
    have hz1 := addText_size ((shapeOf (n : Int)).getD noShape).word a ha.1 ha.2 ((shapeOf (n : Int)).getD noShape).a true
    have hz2 := addText_size (addText ((shapeOf (n : Int)).getD noShape).word a ((shapeOf (n : Int)).getD noShape).a true) b hb.1 hb.2 ((shapeOf (n : Int)).getD noShape).b true
    have hz3 := addText_size (addText (addText ((shapeOf (n : Int)).getD noShape).word a ((shapeOf (n : Int)).getD noShape).a true) b ((shapeOf (n : Int)).getD noShape).b true) c hc.1 hc.2 ((((shapeOf (n : Int)).getD noShape).c : Int) != 0) ((((shapeOf (n : Int)).getD noShape).c : Int) == 114)
    have hw := shape_word (n : Int)
    exact rtext_walk n hn a b c _ (row_some n hn) f3 _ rfl f2 (row_words n hn) f4 ha hb hc hk _ (fit_any n hn a b c) (by unfold instText; omega) w hl

set_option maxHeartbeats 1000000 in
set_option maxRecDepth 100000 in
theorem texts_law (op a b c : Int) (ha : -9223372036854775808 ≤ a ∧ a ≤ 9223372036854775807) (hb : -9223372036854775808 ≤ b ∧ b ≤ 9223372036854775807) (hc : -9223372036854775808 ≤ c ∧ c ≤ 9223372036854775807) (w : World) (hl : LaidW w) :
    Calls Tryd.prog 4 #[.agg #[.int .i64 op, .int .i64 a, .int .i64 b, .int .i64 c]] w fun e w' => e = .returned (.bool true) ∧ Below w.heap.size w w' := by
  have hB0 : Below w.heap.size w (w.alloc (.cells #[.int .i64 op, .int .i64 a, .int .i64 b, .int .i64 c] 29)) := (Below.refl _ _).alloc (Nat.le_refl _) _
  have C11 := Lib.hid (text_any op a b c ha hb hc _ (hl.below hB0))
  have C12 := Lib.hid (fun w hl => rtext_any op a b c ha hb hc w hl)
  generalize textB op a b c = T at C11 C12
  generalize chkE (chk op a b c) = E at C11 C12
  have HL := Lib.hid hl
  clear hl
  go_enter Tryd.func4, Tryd.ntmps4
  go_wp2_with fail
  refine C11.out.mono ?_
  rintro e w1 ⟨rfl, hb1⟩
  have k0 : w1.cell? ⟨w.heap.size, 0, none⟩ = some (.int .i64 op) := old_cell hb1 (by simp) (by simp)
  have k1 : w1.cell? ⟨w.heap.size, 1, none⟩ = some (.int .i64 a) := old_cell hb1 (by simp) (by simp)
  have k2 : w1.cell? ⟨w.heap.size, 2, none⟩ = some (.int .i64 b) := old_cell hb1 (by simp) (by simp)
  have k3 : w1.cell? ⟨w.heap.size, 3, none⟩ = some (.int .i64 c) := old_cell hb1 (by simp) (by simp)
  have hB1 : Below w.heap.size w w1 := hB0.trans (hb1.mono (by simp))
  have HB1 := Lib.hid hB1
  clear hb1 hB1 hB0
  go_wp2_with fail
  refine (C12.out _ (HL.out.below HB1.out)).mono ?_
  rintro e w2 ⟨rfl, hb2⟩
  go_wp2
  go_ret
  exact ⟨rfl, HB1.out.trans (hb2.mono HB1.out.size)⟩
end Go.Proofs.YtljjdkjmciheeaaDoor.P
