/- The reference's InstText. -/
import Derived.Test.YtljjdkjmciheeaaDoorRd
namespace Go.Proofs.YtljjdkjmciheeaaDoor.P
open Go.RowKit Go.Lib

/-- What the reference writes for a sign of a row. -/
def signText (a b c : Int) (x : ByteArray) : ByteArray := if x = ⟨#[65]⟩ then ⟨#[114]⟩ ++ itoaB a else if x = ⟨#[66]⟩ then ⟨#[114]⟩ ++ itoaB b else if x = ⟨#[114]⟩ then ⟨#[114]⟩ ++ itoaB c else itoaB c
def doneW (a b c : Int) (ws : List ByteArray) (k : Nat) : List ByteArray := ws.take 1 ++ ((ws.drop 1).take k).map (signText a b c) ++ (ws.drop 1).drop k
theorem doneW_len (a b c : Int) (ws : List ByteArray) (k : Nat) (h : 1 ≤ ws.length) : (doneW a b c ws k).length = ws.length := by
  simp [doneW]; omega
theorem doneW_zero (a b c : Int) (ws : List ByteArray) : doneW a b c ws 0 = ws := by
  unfold doneW
  rw [List.take_zero, List.map_nil, List.append_nil, List.drop_zero, List.take_append_drop]
theorem doneW_at (a b c : Int) (ws : List ByteArray) (k : Nat) (h : 1 + k < ws.length) : (doneW a b c ws k)[1 + k]? = ws[1 + k]? := by
  unfold doneW
  rw [List.getElem?_append_right (by simp; omega)]
  simp only [List.length_append, List.length_take, List.length_map, List.length_drop]
  rw [List.getElem?_drop, List.getElem?_drop]
  congr 1; omega
theorem doneW_next (a b c : Int) (ws : List ByteArray) (k : Nat) (x : ByteArray) (hx : ws[1 + k]? = some x) : (doneW a b c ws k).set (1 + k) (signText a b c x) = doneW a b c ws (k + 1) := by
  have hlt : 1 + k < ws.length := (List.getElem?_eq_some_iff.1 hx).1
  have hx2 : (ws.drop 1)[k]? = some x := by rw [List.getElem?_drop]; exact hx
  have hk : k < (ws.drop 1).length := by simp; omega
  have e1 : (ws.drop 1).drop k = x :: (ws.drop 1).drop (k + 1) := by
    rw [List.drop_eq_getElem_cons hk]
    congr 1
    exact (List.getElem?_eq_some_iff.1 hx2).2
  have e2 : (ws.drop 1).take (k + 1) = (ws.drop 1).take k ++ [x] := by rw [List.take_add_one, hx2]; rfl
  unfold doneW
  rw [e1, e2]
  have hl : (ws.take 1 ++ ((ws.drop 1).take k).map (signText a b c)).length = 1 + k := by simp; omega
  rw [List.set_append_right _ _ (by omega), hl]
  simp
theorem heap_setCell_at {w : World} {b i : Nat} {l : List ByteArray} (h : w.heap[b]? = some (.cells (l.map Value.string).toArray 9 (0, 0))) (s : ByteArray) :
    (w.setCell ⟨b, i, none⟩ (.string s)).heap[b]? = some (.cells ((l.set i s).map Value.string).toArray 9 (0, 0)) := by
  simp only [World.setCell, Array.getElem?_modify, h]
  simp [List.map_set]
theorem blk_frozen0 {w : World} {b : Nat} {cs : Array Value} {t : TypeId} (h : w.heap[b]? = some (.cells cs t (0, 0))) (o : Nat) : w.frozen? ⟨b, o, none⟩ = false := by
  simp [World.frozen?, h]

/-- What stands in memory in the loop that writes a row's words. -/
structure TxtSt (w : World) (vals : Array Value) (wb : Nat) (l : List ByteArray) (wr : World) : Prop where
  box : wr.heap[w.heap.size]? = some (.cells vals 29 (0, 0))
  words : wr.heap[wb]? = some (.cells (l.map Value.string).toArray 9 (0, 0))
  lt : w.heap.size < wb
  below : Below w.heap.size w wr
theorem TxtSt.cell {w : World} {vals : Array Value} {wb : Nat} {l : List ByteArray} {wr : World} (h : TxtSt w vals wb l wr) (i : Nat) (x : ByteArray) (hx : l[i]? = some x) : wr.cell? ⟨wb, i, none⟩ = some (.string x) := by
  rw [Lib.cell_of_heap h.words]; simp [hx]
theorem TxtSt.go {w : World} {vals : Array Value} {wb : Nat} {l : List ByteArray} {wr w1 : World} (h : TxtSt w vals wb l wr) (hb : Below wr.heap.size wr w1) : TxtSt w vals wb l w1 :=
  ⟨(hb.block _ (Array.getElem?_eq_some_iff.1 h.box).1).trans h.box, (hb.block _ (Array.getElem?_eq_some_iff.1 h.words).1).trans h.words, h.lt, h.below.trans (hb.mono h.below.size)⟩
theorem TxtSt.put {w : World} {vals : Array Value} {wb : Nat} {l : List ByteArray} {wr : World} (h : TxtSt w vals wb l wr) (i : Nat) (s : ByteArray) : TxtSt w vals wb (l.set i s) (wr.setCell ⟨wb, i, none⟩ (.string s)) :=
  ⟨(Below.heap_setCell _ _ _ _ (by have := h.lt; show _ ≠ wb; omega)).trans h.box, heap_setCell_at h.words s, h.lt, h.below.setCell (Nat.le_of_lt h.lt) _⟩
theorem txtSt_mk {w W w1 w2 : World} {vals : Array Value} {ws : List ByteArray} (hx : W.heap[w.heap.size]? = some (.cells vals 29 (0, 0))) (h1 : Below W.heap.size W w1) (hk : w2.heap[w1.heap.size]? = some (.cells (ws.map Value.string).toArray 9 (0, 0)))
    (h2 : Below w1.heap.size w1 w2) (hB : Below w.heap.size w W) : TxtSt w vals w1.heap.size ws w2 := by
  have hlt : w.heap.size < W.heap.size := (Array.getElem?_eq_some_iff.1 hx).1
  exact ⟨(h2.block _ (by have := h1.size; omega)).trans ((h1.block _ hlt).trans hx), hk, by have := h1.size; omega, (hB.trans (h1.mono hB.size)).trans (h2.mono (Nat.le_trans hB.size h1.size))⟩

theorem rtext_no (op a b c : Int) (hk : chk op a b c = false) (w : World) (hl : LaidW w) :
    Calls Tryd.prog 12 #[.agg #[.int .i64 op, .int .i64 a, .int .i64 b, .int .i64 c]] w fun e w' => e = .returned (.tuple #[.string ⟨#[]⟩, .int .i64 1]) ∧ Below w.heap.size w w' := by
  have hB0 : Below w.heap.size w (w.alloc (.cells #[.int .i64 op, .int .i64 a, .int .i64 b, .int .i64 c] 29)) := (Below.refl _ _).alloc (Nat.le_refl _) _
  have cC := rcheck_any op a b c _ (hl.below hB0)
  rw [hk, show chkE false = 1 from rfl] at cC
  have CC := Lib.hid cC
  clear hl cC hk
  go_enter Tryd.func12, Tryd.ntmps12
  go_wp2_with fail
  refine CC.out.mono ?_
  rintro e w1 ⟨rfl, hb1⟩
  go_wp2
  go_ret2
  exact ⟨rfl, hB0.trans (hb1.mono (by simp))⟩

set_option maxHeartbeats 4000000 in
set_option maxRecDepth 100000 in
theorem rtext_walk (op : Nat) (hop : op < 23) (a b c : Int) (row : ByteArray) (hrow : tableB[op]? = some row) (hrs : row.size < 100) (ws : List ByteArray) (hws : splitSp row = ws) (hsg : (ws.drop 1).all isSign = true) (h1 : 1 ≤ ws.length) (h4 : ws.length ≤ 4)
    (ha : -9223372036854775808 ≤ a ∧ a ≤ 9223372036854775807) (hb : -9223372036854775808 ≤ b ∧ b ≤ 9223372036854775807) (hc : -9223372036854775808 ≤ c ∧ c ≤ 9223372036854775807)
    (hk : chk op a b c = true) (T : ByteArray) (hT : (⟨(Lib.join ((doneW a b c ws (ws.length - 1)).map (·.data.toList)) [32]).toArray⟩ : ByteArray) = T) (hTs : T.size ≤ 1000) (w : World) (hl : LaidW w) :
    Calls Tryd.prog 12 #[.agg #[.int .i64 op, .int .i64 a, .int .i64 b, .int .i64 c]] w fun e w' => e = .returned (.tuple #[.string T, .int .i64 0]) ∧ Below w.heap.size w w' := by
  have hB0 : Below w.heap.size w (w.alloc (.cells #[.int .i64 op, .int .i64 a, .int .i64 b, .int .i64 c] 29)) := (Below.refl _ _).alloc (Nat.le_refl _) _
  have cC := rcheck_any op a b c _ (hl.below hB0)
  rw [hk, show chkE true = 0 from rfl] at cC
  have CC := Lib.hid cC
  have HL := Lib.hid hl
  have HW := Lib.hid hws
  have HR := Lib.hid hrow
  have HT := Lib.hid hT
  have HSG := Lib.hid hsg
  clear hsg
  have CT := Lib.hid table_any
  have DA := Lib.hid (digits_any a ha.1 ha.2)
  have DB := Lib.hid (digits_any b hb.1 hb.2)
  have DC := Lib.hid (digits_any c hc.1 hc.2)
  have za := itoaB_size a ha.1 ha.2
  have zb := itoaB_size b hb.1 hb.2
  have zc := itoaB_size c hc.1 hc.2
  clear hl hws hrow hT cC hk
  go_enter Tryd.func12, Tryd.ntmps12
  go_wp2_with fail
  refine CC.out.mono ?_
  rintro e W ⟨rfl, hbW⟩
  have hbx : W.heap[w.heap.size]? = some (.cells #[.int .i64 op, .int .i64 a, .int .i64 b, .int .i64 c] 29 (0, 0)) := (hbW.block _ (by simp)).trans (MapKept.heap_alloc w _).1
  have hBW : Below w.heap.size w W := hB0.trans (hbW.mono (by simp))
  have hlt : w.heap.size < W.heap.size := (Array.getElem?_eq_some_iff.1 hbx).1
  have kop : W.cell? ⟨w.heap.size, 0, none⟩ = some (.int .i64 op) := by rw [Lib.cell_of_heap hbx]; rfl
  have HBX := Lib.hid hbx
  have HBW := Lib.hid hBW
  clear hbx hBW hbW hB0 CC
  go_upto_region 4 with fail
  obtain ⟨m, hm⟩ : ∃ m, ws.length = m + 1 := ⟨ws.length - 1, by omega⟩
  have CSp := Lib.hid (split_any row (by omega))
  rw [HW.out] at CSp
  go_cut [5] (fun s5 wx => ∃ wb, s5 = .slice (some ⟨wb, 0, none⟩) (m + 1) (m + 1) ∧ TxtSt w #[.int .i64 op, .int .i64 a, .int .i64 b, .int .i64 c] wb ws wx)
  case first =>
    rw [hm] at CSp
    have HM := Lib.hid hm
    clear hm h1 h4
    go_region_with (first
      | (go_at_call 27; refine (CT.out _ ?hq).mono ?_; (case hq => exact HL.out.below (by first | exact HBW.out | exact HBW.out.drew)); rintro e w1 ⟨rfl, hw1⟩; have kr0 := strs_facts HR.out hw1; have kr : w1.cell? ⟨W.heap.size, op, none⟩ = some (.string row) := kr0; have hb1 := strs_below hw1; have hb2 : Below W.heap.size W w1 := ⟨hb1.os, hb1.tape, hb1.output, hb1.size, hb1.block⟩; have k1 : w1.cell? ⟨w.heap.size, 0, none⟩ = some (.int .i64 op) := old_cell hb2 hlt kop; have HW1 := Lib.hid hb2; clear hw1 kr0 hb1 hb2)
      | (go_at_call 26; refine (CSp.out _ ?hq).mono ?_; (case hq => exact HL.out.below (HBW.out.trans (HW1.out.mono (by omega)))); rintro e w2 ⟨rfl, hw2⟩; have hk2 := strs_block hw2; have hb2 := strs_below hw2; have k2 : w2.cell? ⟨w.heap.size, 0, none⟩ = some (.int .i64 op) := old_cell hb2 (Nat.lt_of_lt_of_le hlt HW1.out.size) k1; have HK2 := Lib.hid hk2; have HW2 := Lib.hid hb2; clear hw2 hk2 hb2))
    all_goals go_wp2
    all_goals go_meet
    all_goals exact ⟨_, rfl, txtSt_mk HBX.out HW1.out HK2.out HW2.out HBW.out⟩
  case rest =>
    obtain ⟨wb, rfl, hst⟩ := hcut
    have HST := Lib.hid hst
    clear hst HBX HBW kop CSp hlt
    obtain ⟨ad, had⟩ : ∃ ad, (if m = 0 then some (⟨wb, 0, none⟩ : Addr) else some ⟨wb, 1, none⟩) = ad := ⟨_, rfl⟩
    go_upto_block 0 with fail
    have HAD := Lib.hid had
    clear had
    go_wp2
    go_loopg [22] m (fun gk s22 wx => ∃ k : Nat, s22 = .int .i64 (k : Int) ∧ k ≤ m ∧ m ≤ k + gk ∧ TxtSt w #[.int .i64 op, .int .i64 a, .int .i64 b, .int .i64 c] wb (doneW a b c ws k) wx)
    case atStart => exact ⟨0, rfl, Nat.zero_le _, by omega, by have h := HST.out; rwa [doneW_zero]⟩
    case round =>
      obtain ⟨k, rfl, hk, hfu, hst⟩ := hrel
      by_cases hlt2 : k < m
      · obtain ⟨g', rfl⟩ : ∃ g', gk = g' + 1 := ⟨gk - 1, by omega⟩
        obtain ⟨x, hx⟩ : ∃ x, ws[1 + k]? = some x := ⟨_, List.getElem?_eq_getElem (by omega)⟩
        have hxd := (doneW_at a b c ws k (by omega)).trans hx
        have hcell := hst.cell (1 + k) x hxd
        have kA : wr.cell? ⟨w.heap.size, 1, none⟩ = some (.int .i64 a) := by rw [Lib.cell_of_heap hst.box]; rfl
        have kB : wr.cell? ⟨w.heap.size, 2, none⟩ = some (.int .i64 b) := by rw [Lib.cell_of_heap hst.box]; rfl
        have kC : wr.cell? ⟨w.heap.size, 3, none⟩ = some (.int .i64 c) := by rw [Lib.cell_of_heap hst.box]; rfl
        have hdn := doneW_next a b c ws k x hx
        have HDN := Lib.hid hdn
        have HCW := Lib.hid hxd
        have HST2 := Lib.hid hst
        have hsx : isSign x = true := by
          have h := HSG.out
          rw [List.all_eq_true] at h
          exact h x (List.mem_of_getElem? (by rw [List.getElem?_drop]; exact hx))
        obtain rfl : ad = some ⟨wb, 1, none⟩ := by rw [← HAD.out, if_neg (by omega)]
        have hkb : k ≤ 3 := by omega
        have hkb2 : (k : Int) ≤ 3 := by omega
        have hmb : m ≤ 3 := by omega
        clear hx hxd hst hdn hm HST h4 h1
        have hcs : x = ⟨#[65]⟩ ∨ x = ⟨#[66]⟩ ∨ x = ⟨#[110]⟩ ∨ x = ⟨#[114]⟩ ∨ x = ⟨#[112]⟩ ∨ x = ⟨#[113]⟩ ∨ x = ⟨#[109]⟩ := by simpa [isSign, or_assoc] using hsx
        clear hsx
        rcases hcs with rfl | rfl | rfl | rfl | rfl | rfl | rfl
        · have he : signText a b c ⟨#[65]⟩ = ⟨#[114]⟩ ++ itoaB a := rfl
          have HE := Lib.hid he
          clear he
          go_wp2_with (go_at_call 28; refine (DA.out _).mono ?_; rintro e w1 ⟨rfl, hb1⟩; have hst1 := HST2.out.go hb1; have hc1 := hst1.cell (1 + k) _ HCW.out; have hc2 : w1.cell? ⟨wb, k + 1, none⟩ = some (.string ⟨#[65]⟩) := (by rw [Nat.add_comm]; exact hc1); have hf1 : w1.frozen? ⟨wb, k + 1, none⟩ = false := blk_frozen0 hst1.words _; have HS1 := Lib.hid hst1; clear hst1)
          go_roundg g'
          case measure => omega
          case rel => exact ⟨k + 1, by go_num, by omega, by omega, by have h := HS1.out.put (1 + k) (signText a b c ⟨#[65]⟩); rw [HDN.out, HE.out, Nat.add_comm 1 k] at h; exact h⟩
        · have he : signText a b c ⟨#[66]⟩ = ⟨#[114]⟩ ++ itoaB b := rfl
          have HE := Lib.hid he
          clear he
          go_wp2_with (go_at_call 28; refine (DB.out _).mono ?_; rintro e w1 ⟨rfl, hb1⟩; have hst1 := HST2.out.go hb1; have hc1 := hst1.cell (1 + k) _ HCW.out; have hc2 : w1.cell? ⟨wb, k + 1, none⟩ = some (.string ⟨#[66]⟩) := (by rw [Nat.add_comm]; exact hc1); have hf1 : w1.frozen? ⟨wb, k + 1, none⟩ = false := blk_frozen0 hst1.words _; have HS1 := Lib.hid hst1; clear hst1)
          go_roundg g'
          case measure => omega
          case rel => exact ⟨k + 1, by go_num, by omega, by omega, by have h := HS1.out.put (1 + k) (signText a b c ⟨#[66]⟩); rw [HDN.out, HE.out, Nat.add_comm 1 k] at h; exact h⟩
        · have he : signText a b c ⟨#[110]⟩ = itoaB c := rfl
          have HE := Lib.hid he
          clear he
          go_wp2_with (go_at_call 28; refine (DC.out _).mono ?_; rintro e w1 ⟨rfl, hb1⟩; have hst1 := HST2.out.go hb1; have hc1 := hst1.cell (1 + k) _ HCW.out; have hc2 : w1.cell? ⟨wb, k + 1, none⟩ = some (.string ⟨#[110]⟩) := (by rw [Nat.add_comm]; exact hc1); have hf1 : w1.frozen? ⟨wb, k + 1, none⟩ = false := blk_frozen0 hst1.words _; have HS1 := Lib.hid hst1; clear hst1)
          go_roundg g'
          case measure => omega
          case rel => exact ⟨k + 1, by go_num, by omega, by omega, by have h := HS1.out.put (1 + k) (signText a b c ⟨#[110]⟩); rw [HDN.out, HE.out, Nat.add_comm 1 k] at h; exact h⟩
        · have he : signText a b c ⟨#[114]⟩ = ⟨#[114]⟩ ++ itoaB c := rfl
          have HE := Lib.hid he
          clear he
          go_wp2_with (go_at_call 28; refine (DC.out _).mono ?_; rintro e w1 ⟨rfl, hb1⟩; have hst1 := HST2.out.go hb1; have hc1 := hst1.cell (1 + k) _ HCW.out; have hc2 : w1.cell? ⟨wb, k + 1, none⟩ = some (.string ⟨#[114]⟩) := (by rw [Nat.add_comm]; exact hc1); have hf1 : w1.frozen? ⟨wb, k + 1, none⟩ = false := blk_frozen0 hst1.words _; have HS1 := Lib.hid hst1; clear hst1)
          go_roundg g'
          case measure => omega
          case rel => exact ⟨k + 1, by go_num, by omega, by omega, by have h := HS1.out.put (1 + k) (signText a b c ⟨#[114]⟩); rw [HDN.out, HE.out, Nat.add_comm 1 k] at h; exact h⟩
        · have he : signText a b c ⟨#[112]⟩ = itoaB c := rfl
          have HE := Lib.hid he
          clear he
          go_wp2_with (go_at_call 28; refine (DC.out _).mono ?_; rintro e w1 ⟨rfl, hb1⟩; have hst1 := HST2.out.go hb1; have hc1 := hst1.cell (1 + k) _ HCW.out; have hc2 : w1.cell? ⟨wb, k + 1, none⟩ = some (.string ⟨#[112]⟩) := (by rw [Nat.add_comm]; exact hc1); have hf1 : w1.frozen? ⟨wb, k + 1, none⟩ = false := blk_frozen0 hst1.words _; have HS1 := Lib.hid hst1; clear hst1)
          go_roundg g'
          case measure => omega
          case rel => exact ⟨k + 1, by go_num, by omega, by omega, by have h := HS1.out.put (1 + k) (signText a b c ⟨#[112]⟩); rw [HDN.out, HE.out, Nat.add_comm 1 k] at h; exact h⟩
        · have he : signText a b c ⟨#[113]⟩ = itoaB c := rfl
          have HE := Lib.hid he
          clear he
          go_wp2_with (go_at_call 28; refine (DC.out _).mono ?_; rintro e w1 ⟨rfl, hb1⟩; have hst1 := HST2.out.go hb1; have hc1 := hst1.cell (1 + k) _ HCW.out; have hc2 : w1.cell? ⟨wb, k + 1, none⟩ = some (.string ⟨#[113]⟩) := (by rw [Nat.add_comm]; exact hc1); have hf1 : w1.frozen? ⟨wb, k + 1, none⟩ = false := blk_frozen0 hst1.words _; have HS1 := Lib.hid hst1; clear hst1)
          go_roundg g'
          case measure => omega
          case rel => exact ⟨k + 1, by go_num, by omega, by omega, by have h := HS1.out.put (1 + k) (signText a b c ⟨#[113]⟩); rw [HDN.out, HE.out, Nat.add_comm 1 k] at h; exact h⟩
        · have he : signText a b c ⟨#[109]⟩ = itoaB c := rfl
          have HE := Lib.hid he
          clear he
          go_wp2_with (go_at_call 28; refine (DC.out _).mono ?_; rintro e w1 ⟨rfl, hb1⟩; have hst1 := HST2.out.go hb1; have hc1 := hst1.cell (1 + k) _ HCW.out; have hc2 : w1.cell? ⟨wb, k + 1, none⟩ = some (.string ⟨#[109]⟩) := (by rw [Nat.add_comm]; exact hc1); have hf1 : w1.frozen? ⟨wb, k + 1, none⟩ = false := blk_frozen0 hst1.words _; have HS1 := Lib.hid hst1; clear hst1)
          go_roundg g'
          case measure => omega
          case rel => exact ⟨k + 1, by go_num, by omega, by omega, by have h := HS1.out.put (1 + k) (signText a b c ⟨#[109]⟩); rw [HDN.out, HE.out, Nat.add_comm 1 k] at h; exact h⟩
      · obtain rfl : k = m := by omega
        have hm1 : ws.length - 1 = k := by omega
        have hT2 : (⟨(Lib.join ((doneW a b c ws k).map (·.data.toList)) [32]).toArray⟩ : ByteArray) = T := by rw [← hm1]; exact HT.out
        have hlen : (doneW a b c ws k).length = k + 1 := by rw [doneW_len _ _ _ _ _ h1, hm]
        have hcells := fun j x (hx : (doneW a b c ws k)[j]? = some x) => hst.cell j x hx
        have cJ := Tryd.strings_Join wb 0 (k + 1) (doneW a b c ws k) ⟨#[32]⟩ wr (fun j x hx => by rw [Nat.zero_add]; exact hcells j x hx) (Array.getElem?_eq_some_iff.1 hst.words).1 (by omega) (by omega) (by
          have := congrArg ByteArray.size hT2
          simp only [ByteArray.size] at this
          rw [List.size_toArray] at this
          show (Lib.join ((doneW a b c ws k).map (·.data.toList)) [32]).length ≤ _
          rw [this]
          show T.size ≤ _
          omega)
        have cJ2 : Calls Tryd.prog 29 #[.slice (some ⟨wb, 0, none⟩) (k + 1) (k + 1), .string ⟨#[32]⟩] wr fun e w' => e = .returned (.string T) ∧ Below wr.heap.size wr w' := by
          rw [hlen] at cJ
          rw [← hT2]
          exact cJ
        have CJ := Lib.hid cJ2
        have HEND := Lib.hid hst.below
        clear cJ cJ2 hcells hst hT2 hlen hm1 HST hm
        go_wp2_with (go_at_call 29; refine CJ.out.mono ?_; rintro e w1 ⟨rfl, hb1⟩)
        go_ret2
        exact ⟨rfl, HEND.out.trans (hb1.mono HEND.out.size)⟩
end Go.Proofs.YtljjdkjmciheeaaDoor.P
