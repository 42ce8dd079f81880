/- inst.Text: the text of an instruction that may be. -/
import Derived.Test.YtljjdkjmciheeaaDoorNc
namespace Go.Proofs.YtljjdkjmciheeaaDoor.P
open Go.RowKit Go.Lib

/-- Cells of an older block, and its marks, behind a call. -/
theorem old_cell {w0 w1 : World} (hb : Below w0.heap.size w0 w1) {g o : Nat} {v : Value} (hg : g < w0.heap.size) (h : w0.cell? ⟨g, o, none⟩ = some v) : w1.cell? ⟨g, o, none⟩ = some v := (hb.cell (p := ⟨g, o, none⟩) hg).trans h
theorem old_cell' {B : Nat} {w0 w1 : World} (hb : Below B w0 w1) {g o : Nat} {v : Value} (hg : g < B) (h : w0.cell? ⟨g, o, none⟩ = some v) : w1.cell? ⟨g, o, none⟩ = some v := (hb.cell (p := ⟨g, o, none⟩) hg).trans h

def instText (wd : ByteArray) (sa sb : Bool) (sc : Nat) (a b c : Int) : ByteArray :=
  addText (addText (addText wd a sa true) b sb true) c ((sc : Int) != 0) ((sc : Int) == 114)
theorem addText_size (o : ByteArray) (n : Int) (h0 : -9223372036854775808 ≤ n) (h1 : n ≤ 9223372036854775807) (has r : Bool) : (addText o n has r).size ≤ o.size + 23 := by
  have := itoaB_size n h0 h1
  have h2 : (⟨#[32, 114]⟩ : ByteArray).size = 2 := rfl
  have h3 : (⟨#[32]⟩ : ByteArray).size = 1 := rfl
  unfold addText
  split
  · split
    · rw [ByteArray.size_append, ByteArray.size_append]; omega
    · rw [ByteArray.size_append, ByteArray.size_append]; omega
  · omega

set_option maxHeartbeats 4000000 in
set_option maxRecDepth 100000 in
theorem text_walk (op a b c : Int) (sa sb is : Bool) (wd : ByteArray) (sc : Nat) (hw : wd.size ≤ 10)
    (ha : -9223372036854775808 ≤ a ∧ a ≤ 9223372036854775807) (hb : -9223372036854775808 ≤ b ∧ b ≤ 9223372036854775807) (hc : -9223372036854775808 ≤ c ∧ c ≤ 9223372036854775807)
    (hk : chk op a b c = true) (w : World) (hl : LaidW w)
    (CS : Hid (∀ w, LaidW w → Calls Tryd.prog 22 #[.int .i64 op] w fun e w' => e = .returned (.tuple #[.agg #[.string wd, .bool sa, .bool sb, .int .u8 sc], .bool is]) ∧ Below w.heap.size w w')) :
    Calls Tryd.prog 11 #[.agg #[.int .i64 op, .int .i64 a, .int .i64 b, .int .i64 c]] w fun e w' => e = .returned (.tuple #[.string (instText wd sa sb sc a b c), .int .i64 0]) ∧ Below w.heap.size w w' := by
  have HL := Lib.hid hl
  have cC := check_any op a b c
  rw [hk] at cC
  have CC := Lib.hid cC
  clear hl cC hk
  go_enter Tryd.func11, Tryd.ntmps11
  go_wp2_with fail
  refine (CC.out _ (HL.out.below ((Below.refl _ _).alloc (Nat.le_refl _) _))).mono ?_
  rintro e w1 ⟨rfl, hb1⟩
  have k0 : w1.cell? ⟨w.heap.size, 0, none⟩ = some (.int .i64 op) := old_cell hb1 (by simp) (by simp)
  have k1 : w1.cell? ⟨w.heap.size, 1, none⟩ = some (.int .i64 a) := old_cell hb1 (by simp) (by simp)
  have k2 : w1.cell? ⟨w.heap.size, 2, none⟩ = some (.int .i64 b) := old_cell hb1 (by simp) (by simp)
  have k3 : w1.cell? ⟨w.heap.size, 3, none⟩ = some (.int .i64 c) := old_cell hb1 (by simp) (by simp)
  have hz1 : w.heap.size + 1 ≤ w1.heap.size := by have := hb1.size; simpa using this
  have hB1 : Below w.heap.size w w1 := ((Below.refl _ _).alloc (Nat.le_refl _) _).trans (hb1.mono (by simp))
  have HB1 := Lib.hid hB1
  have hzz : w.heap.size < w1.heap.size := by omega
  clear hb1 hB1
  go_wp2_with fail
  refine (CS.out _ (HL.out.below HB1.out)).mono ?_
  rintro e w2 ⟨rfl, hb2⟩
  have l1 : w2.cell? ⟨w.heap.size, 1, none⟩ = some (.int .i64 a) := old_cell hb2 hzz k1
  have l2 : w2.cell? ⟨w.heap.size, 2, none⟩ = some (.int .i64 b) := old_cell hb2 hzz k2
  have l3 : w2.cell? ⟨w.heap.size, 3, none⟩ = some (.int .i64 c) := old_cell hb2 hzz k3
  have hB2 : Below w.heap.size w w2 := HB1.out.trans (hb2.mono (by omega))
  have hz2 : w1.heap.size ≤ w2.heap.size := hb2.size
  have HB2 := Lib.hid hB2
  have hza : w.heap.size < w2.heap.size := by omega
  have hzb : ¬ (w.heap.size = w2.heap.size) := by omega
  have hzc : ¬ (w.heap.size = w2.heap.size + 1) := by omega
  clear hb2 hB2 k0 k1 k2 k3 hzz hz1 hz2
  obtain ⟨W, hW⟩ : ∃ W, (w2.alloc (.cells #[.string wd, .bool sa, .bool sb, .int .u8 sc] 44)).alloc (.cells #[.string wd] 9) = W := ⟨_, rfl⟩
  have hW2 : Below w2.heap.size w2 W := by rw [← hW]; exact ((Below.refl _ _).alloc (Nat.le_refl _) _).alloc (by simp) _
  have hBW : Below w.heap.size w W := by rw [← hW]; exact (HB2.out.alloc (by omega) _).alloc (by simp; omega) _
  have hsW : W.heap.size = w2.heap.size + 2 := by rw [← hW]; simp
  have m1 : W.cell? ⟨w.heap.size, 1, none⟩ = some (.int .i64 a) := old_cell hW2 hza l1
  have m2 : W.cell? ⟨w.heap.size, 2, none⟩ = some (.int .i64 b) := old_cell hW2 hza l2
  have m3 : W.cell? ⟨w.heap.size, 3, none⟩ = some (.int .i64 c) := old_cell hW2 hza l3
  have n1 : W.cell? ⟨w2.heap.size, 1, none⟩ = some (.bool sa) := by rw [← hW]; simp
  have n2 : W.cell? ⟨w2.heap.size, 2, none⟩ = some (.bool sb) := by rw [← hW]; simp
  have n3 : W.cell? ⟨w2.heap.size, 3, none⟩ = some (.int .u8 sc) := by rw [← hW]; simp
  have o1 : W.cell? ⟨w2.heap.size + 1, 0, none⟩ = some (.string wd) := by rw [← hW]; simp
  have f1 : W.frozen? ⟨w2.heap.size + 1, 0, none⟩ = false := by rw [← hW]; simp
  have HO := Lib.hid o1
  have HF := Lib.hid f1
  have HM2 := Lib.hid m2
  have HM3 := Lib.hid m3
  have HN2 := Lib.hid n2
  have HN3 := Lib.hid n3
  have HBW := Lib.hid hBW
  have HSW := Lib.hid hsW
  clear m2 m3 n2 n3 o1 f1 hBW hsW l1 l2 l3 hW2
  go_wp2_with fail
  refine (add_any a ha.1 ha.2 sa true (w2.heap.size + 1) wd (by omega) W (by have := HSW.out; omega) (HL.out.below HBW.out) HO.out HF.out).mono ?_
  rintro e V ⟨rfl, hb1, ho1, hf1⟩
  have hs1 : w2.heap.size + 2 ≤ V.heap.size := by have := hb1.size; have := HSW.out; omega
  have m2 : V.cell? ⟨w.heap.size, 2, none⟩ = some (.int .i64 b) := old_cell' hb1 (by omega) HM2.out
  have m3 : V.cell? ⟨w.heap.size, 3, none⟩ = some (.int .i64 c) := old_cell' hb1 (by omega) HM3.out
  have n2 : V.cell? ⟨w2.heap.size, 2, none⟩ = some (.bool sb) := old_cell' hb1 (by omega) HN2.out
  have n3 : V.cell? ⟨w2.heap.size, 3, none⟩ = some (.int .u8 sc) := old_cell' hb1 (by omega) HN3.out
  have hBV : Below w.heap.size w V := HBW.out.trans (hb1.mono (by omega))
  have HBV := Lib.hid hBV
  have HVM3 := Lib.hid m3
  have HVN3 := Lib.hid n3
  have HVO := Lib.hid ho1
  have HVF := Lib.hid hf1
  have HVS := Lib.hid hs1
  have hz1 := addText_size wd a ha.1 ha.2 sa true
  clear hb1 ho1 hf1 hs1 m1 n1 hBV m3 n3 hW HM2 HM3 HN2 HN3 HO HF HBW
  go_wp2_with fail
  refine (add_any b hb.1 hb.2 sb true (w2.heap.size + 1) _ (by omega) V (by have := HVS.out; omega) (HL.out.below HBV.out) HVO.out HVF.out).mono ?_
  rintro e U ⟨rfl, hb2, ho2, hf2⟩
  have hs2 : w2.heap.size + 2 ≤ U.heap.size := by have := hb2.size; have := HVS.out; omega
  have m3 : U.cell? ⟨w.heap.size, 3, none⟩ = some (.int .i64 c) := old_cell' hb2 (by omega) HVM3.out
  have n3 : U.cell? ⟨w2.heap.size, 3, none⟩ = some (.int .u8 sc) := old_cell' hb2 (by omega) HVN3.out
  have hBU : Below w.heap.size w U := HBV.out.trans (hb2.mono (by omega))
  have HBU := Lib.hid hBU
  have HUO := Lib.hid ho2
  have HUF := Lib.hid hf2
  have HUS := Lib.hid hs2
  have hz2 := addText_size (addText wd a sa true) b hb.1 hb.2 sb true
  clear hb2 ho2 hf2 hs2 m2 n2 hBU HVM3 HVN3 HVO HVF HBV
  go_wp2_with fail
  refine (add_any c hc.1 hc.2 _ _ (w2.heap.size + 1) _ (by omega) U (by have := HUS.out; omega) (HL.out.below HBU.out) HUO.out HUF.out).mono ?_
  rintro e T ⟨rfl, hb3, ho3, hf3⟩
  have hs3 : w2.heap.size + 2 ≤ T.heap.size := by have := hb3.size; have := HUS.out; omega
  go_wp2
  go_ret2
  exact ⟨rfl, HBU.out.trans (hb3.mono (by omega))⟩

set_option maxHeartbeats 1000000 in
set_option maxRecDepth 100000 in
theorem text_no (op a b c : Int) (hk : chk op a b c = false) (w : World) (hl : LaidW w) :
    Calls Tryd.prog 11 #[.agg #[.int .i64 op, .int .i64 a, .int .i64 b, .int .i64 c]] w fun e w' => e = .returned (.tuple #[.string ⟨#[]⟩, .int .i64 1]) ∧ Below w.heap.size w w' := by
  have hB0 : Below w.heap.size w (w.alloc (.cells #[.int .i64 op, .int .i64 a, .int .i64 b, .int .i64 c] 29)) := (Below.refl _ _).alloc (Nat.le_refl _) _
  have cC := check_any op a b c _ (hl.below hB0)
  rw [hk, show chkE false = 1 from rfl] at cC
  have CC := Lib.hid cC
  clear hl cC hk
  go_enter Tryd.func11, Tryd.ntmps11
  go_wp2_with fail
  refine CC.out.mono ?_
  rintro e w1 ⟨rfl, hb1⟩
  go_wp2
  go_ret2
  exact ⟨rfl, hB0.trans (hb1.mono (by simp))⟩

/-- inst.Text: the text, where the instruction may be. -/
def textB (op a b c : Int) : ByteArray := if chk op a b c then instText ((shapeOf op).getD noShape).word ((shapeOf op).getD noShape).a ((shapeOf op).getD noShape).b ((shapeOf op).getD noShape).c a b c else ⟨#[]⟩
theorem shape_word (op : Int) : ((shapeOf op).getD noShape).word.size ≤ 10 := by
  have h : ∀ s ∈ shapeTab, s.word.size ≤ 10 := by decide +kernel
  cases hs : shapeOf op with
  | none => exact (by decide : noShape.word.size ≤ 10)
  | some s =>
    refine h s ?_
    unfold shapeOf at hs
    split at hs
    · exact List.mem_of_getElem? hs
    · cases hs
theorem text_any (op a b c : Int) (ha : -9223372036854775808 ≤ a ∧ a ≤ 9223372036854775807) (hb : -9223372036854775808 ≤ b ∧ b ≤ 9223372036854775807) (hc : -9223372036854775808 ≤ c ∧ c ≤ 9223372036854775807) (w : World) (hl : LaidW w) :
    Calls Tryd.prog 11 #[.agg #[.int .i64 op, .int .i64 a, .int .i64 b, .int .i64 c]] w fun e w' => e = .returned (.tuple #[.string (textB op a b c), .int .i64 (chkE (chk op a b c))]) ∧ Below w.heap.size w w' := by
  unfold textB
  cases hk : chk op a b c
  · exact text_no op a b c hk w hl
  · exact text_walk op a b c _ _ _ _ _ (shape_word op) ha hb hc hk w hl (Lib.hid (shape_any op))
end Go.Proofs.YtljjdkjmciheeaaDoor.P
