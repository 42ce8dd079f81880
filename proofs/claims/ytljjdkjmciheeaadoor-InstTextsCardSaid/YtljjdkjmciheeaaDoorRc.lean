/- The reference's InstCheck. -/
import Derived.Test.YtljjdkjmciheeaaDoorRb

import Derived.Deep.RegionWith
import Derived.Deep.DeepCutAuto
namespace Go.Proofs.YtljjdkjmciheeaaDoor.P
open Go.RowKit Go.Lib

theorem outside2_any (n lo hi : Int) (b : Bool) (hb : (decide (n < lo) || decide (hi < n)) = b) (w : World) :
    Calls Tryd.prog 20 #[.int .i64 n, .int .i64 lo, .int .i64 hi] w fun e w' => e = .returned (.bool b) ∧ w' = w := by
  subst hb
  by_cases h : n < lo
  · go_enter Tryd.func20, Tryd.ntmps20
    go_wp2
    go_ret
    exact ⟨by simp [h], rfl⟩
  · by_cases h2 : hi < n
    · go_enter Tryd.func20, Tryd.ntmps20
      go_wp2
      go_ret
      exact ⟨by simp [h2], rfl⟩
    · go_enter Tryd.func20, Tryd.ntmps20
      go_wp2
      go_ret
      exact ⟨by simp [h, h2], rfl⟩

theorem mapObj_nil : mapObj [] = .map #[] 0 := rfl
def L0 : Obj := mapObj (litE.take 0)
/-- The literal map of bounds, entry by entry. -/
theorem ins_first (w : World) (k v : Value) (hk : MapKept.IsKey .string k) : (Instr.mapUpdate 90 (.map (some w.heap.size)) k v).run Tryd.prog (w.alloc (.map #[] 0)) = .ok () (w.alloc (mapObj [(k, v)])) := by
  have h := run_update_mapObj (P := Tryd.prog) (w := w.alloc (mapObj [])) (l := []) Tryd.underlying90 Tryd.underlying9 (MapKept.heap_alloc w _).1 (fun x hx => by cases hx) hk v (b := w.heap.size)
  rw [putObj_alloc] at h
  exact h
theorem ins_more (w : World) (l : List (Value × Value)) (hp : PlainKeys .string l) (k v : Value) (hk : MapKept.IsKey .string k) : (Instr.mapUpdate 90 (.map (some w.heap.size)) k v).run Tryd.prog (w.alloc (mapObj l)) = .ok () (w.alloc (mapObj (mput k v l))) := by
  have h := run_update_mapObj (P := Tryd.prog) (w := w.alloc (mapObj l)) (l := l) Tryd.underlying90 Tryd.underlying9 (MapKept.heap_alloc w _).1 hp hk v (b := w.heap.size)
  rw [putObj_alloc] at h
  exact h

theorem strs_facts {W w1 : World} {l : List ByteArray} {i : Nat} {x : ByteArray} (hr : l[i]? = some x) (hw : w1 = W.alloc (.cells (l.map Value.string).toArray 9)) : w1.cell? ⟨W.heap.size, i, none⟩ = some (.string x) := by
  rw [hw]; simp [hr]
theorem strs_below {W w1 : World} {l : List ByteArray} (hw : w1 = W.alloc (.cells (l.map Value.string).toArray 9)) : Below W.heap.size W w1 := by
  rw [hw]; exact (Below.refl _ _).alloc (Nat.le_refl _) _
theorem strs_block {W w1 : World} {l : List ByteArray} (hw : w1 = W.alloc (.cells (l.map Value.string).toArray 9)) : w1.heap[W.heap.size]? = some (.cells (l.map Value.string).toArray 9 (0, 0)) := by
  rw [hw]; exact (MapKept.heap_alloc W _).1
/-- What stands in memory in the loop over a row's words. -/
structure ChkSt (w : World) (vals : Array Value) (mb wb : Nat) (ws : List ByteArray) (s : Bnd) (wr : World) : Prop where
  box : wr.heap[w.heap.size]? = some (.cells vals 29 (0, 0))
  map : wr.heap[mb]? = some s.obj
  words : wr.heap[wb]? = some (.cells (ws.map Value.string).toArray 9 (0, 0))
  lt : w.heap.size < mb ∧ mb < wb
  below : Below w.heap.size w wr
theorem ChkSt.cell {w : World} {vals : Array Value} {mb wb : Nat} {ws : List ByteArray} {s : Bnd} {wr : World} (h : ChkSt w vals mb wb ws s wr) (i : Nat) (x : ByteArray) (hx : ws[i]? = some x) : wr.cell? ⟨wb, i, none⟩ = some (.string x) := by
  rw [Lib.cell_of_heap h.words]; simp [hx]

theorem ChkSt.put {w : World} {vals : Array Value} {mb wb : Nat} {ws : List ByteArray} {s s' : Bnd} {wr : World} (h : ChkSt w vals mb wb ws s wr) : ChkSt w vals mb wb ws s' (wr.putObj mb s'.obj) := by
  have h1 := h.lt
  have h2 : mb < wr.heap.size := (Array.getElem?_eq_some_iff.1 h.map).1
  exact ⟨(putObj_other _ _ _ _ (by omega)).trans h.box, putObj_heap _ _ _ h2, (putObj_other _ _ _ _ (by omega)).trans h.words, h.lt, below_putObj h.below (by omega) _⟩
theorem ChkSt.alloc {w : World} {vals : Array Value} {mb wb : Nat} {ws : List ByteArray} {s : Bnd} {wr : World} (h : ChkSt w vals mb wb ws s wr) (o : Obj) : ChkSt w vals mb wb ws s (wr.alloc o) :=
  ⟨(Below.heap_alloc _ _ _ (Array.getElem?_eq_some_iff.1 h.box).1).trans h.box, (Below.heap_alloc _ _ _ (Array.getElem?_eq_some_iff.1 h.map).1).trans h.map, (Below.heap_alloc _ _ _ (Array.getElem?_eq_some_iff.1 h.words).1).trans h.words, h.lt, h.below.alloc h.below.size _⟩
theorem upd_bnd {wr : World} {mb : Nat} {s : Bnd} (h : wr.heap[mb]? = some s.obj) (k v : Value) (hk : MapKept.IsKey .string k) (s' : Bnd) (hs : mput k v s.ents = s'.ents) :
    (Instr.mapUpdate 90 (.map (some mb)) k v).run Tryd.prog wr = .ok () (wr.putObj mb s'.obj) := by
  have := run_update_mapObj (P := Tryd.prog) Tryd.underlying90 Tryd.underlying9 h s.plain hk v
  rw [hs] at this
  exact this
def litObj (k : Nat) : Obj := mapObj (litE.take k)
theorem keyS (s : ByteArray) : MapKept.IsKey .string (.string s) := trivial
theorem lit_ins (w : World) : ∀ k : Fin 5, (Instr.mapUpdate 90 (.map (some w.heap.size)) (litE[k.val]'k.isLt).1 (litE[k.val]'k.isLt).2).run Tryd.prog (w.alloc (litObj k.val)) = .ok () (w.alloc (litObj (k.val + 1)))
  | ⟨0, _⟩ => ins_more w (litE.take 0) (litE_plain 0) (.string ⟨#[110]⟩) (pairV (-2048) 2047) (keyS _)
  | ⟨1, _⟩ => ins_more w (litE.take 1) (litE_plain 1) (.string ⟨#[114]⟩) (pairV 0 7) (keyS _)
  | ⟨2, _⟩ => ins_more w (litE.take 2) (litE_plain 2) (.string ⟨#[112]⟩) (pairV 0 127) (keyS _)
  | ⟨3, _⟩ => ins_more w (litE.take 3) (litE_plain 3) (.string ⟨#[113]⟩) (pairV 0 5) (keyS _)
  | ⟨4, _⟩ => ins_more w (litE.take 4) (litE_plain 4) (.string ⟨#[109]⟩) (pairV 0 255) (keyS _)
theorem lit_look (w : World) (x : Value) (hx : MapKept.IsKey .string x) (v : Value) (hv : mget x litE = some v) :
    (Instr.lookup 90 (.map (some w.heap.size)) x false).run Tryd.prog (w.alloc (litObj 5)) = .ok v (w.alloc (litObj 5)) := by
  have h := run_lookup_mapObj (P := Tryd.prog) (w := w.alloc (mapObj litE)) (b := w.heap.size) Tryd.underlying90 Tryd.underlying9 (zero89 _) (MapKept.heap_alloc w _).1 (litE_plain 5) hx false
  rw [hv] at h
  exact h
theorem idx0 (x y : Int) (w : World) : (Instr.index 89 (.agg #[.int .i64 x, .int .i64 y]) (.int .i64 0)).run Tryd.prog w = .ok (.int .i64 x) w := by kernel_rfl
theorem idx1 (x y : Int) (w : World) : (Instr.index 89 (.agg #[.int .i64 x, .int .i64 y]) (.int .i64 1)).run Tryd.prog w = .ok (.int .i64 y) w := by kernel_rfl
theorem chkSt_mk {w W w1 w2 : World} {vals : Array Value} {mb : Nat} {ws : List ByteArray} {s : Bnd} (hx : W.heap[w.heap.size]? = some (.cells vals 29 (0, 0))) (hm : W.heap[mb]? = some s.obj) (h1 : Below W.heap.size W w1) (hk : w2.heap[w1.heap.size]? = some (.cells (ws.map Value.string).toArray 9 (0, 0)))
    (h2 : Below w1.heap.size w1 w2) (hB : Below w.heap.size w W) (hlt : w.heap.size < mb) (hW : mb < W.heap.size) : ChkSt w vals mb w1.heap.size ws s w2 :=
  ⟨(h2.block _ (by have := h1.size; omega)).trans ((h1.block _ (by omega)).trans hx), (h2.block _ (by have := h1.size; omega)).trans ((h1.block _ hW).trans hm), hk, ⟨hlt, by have := h1.size; omega⟩, (hB.trans (h1.mono hB.size)).trans (h2.mono (Nat.le_trans hB.size h1.size))⟩
set_option maxHeartbeats 4000000 in
set_option maxRecDepth 100000 in
theorem rcheck_walk (op : Nat) (hop : op < 23) (a b c : Int) (row : ByteArray) (hrow : tableB[op]? = some row) (hrs : row.size < 100) (ws : List ByteArray) (hws : splitSp row = ws) (h1 : 1 ≤ ws.length) (h4 : ws.length ≤ 4) (hsg : (ws.drop 1).all isSign = true)
    (fin : Bnd) (hfin : (ws.drop 1).foldl Bnd.step ⟨0, 0, 0, 0⟩ = fin) (w : World) (hl : LaidW w) (q : Bool)
    (hq : (!(decide (a < 0) || decide (fin.a < a)) && !(decide (b < 0) || decide (fin.b < b)) && !(decide (c < fin.lo) || decide (fin.hi < c))) = q) :
    Calls Tryd.prog 25 #[.agg #[.int .i64 op, .int .i64 a, .int .i64 b, .int .i64 c]] w fun e w' => e = .returned (.int .i64 (chkE q)) ∧ Below w.heap.size w w' := by
  have HL := Lib.hid hl
  have HW := Lib.hid hws
  have HR := Lib.hid hrow
  have HS := Lib.hid hsg
  have HF := Lib.hid hfin
  have HQ := Lib.hid hq
  have CT := Lib.hid table_any
  clear hl hws hrow hsg hfin hq
  go_enter Tryd.func25, Tryd.ntmps25
  have hw22 : IntKind.i64.wrap 22 = 22 := by decide
  go_upto_region 1 with fail
  go_cut [11] (fun s11 wx => s11 = .bool false ∧ wx.heap[w.heap.size]? = some (.cells #[.int .i64 op, .int .i64 a, .int .i64 b, .int .i64 c] 29 (0, 0)) ∧ Below w.heap.size w wx)
  case first =>
    go_region_with (first
      | (go_at_call 27; refine (CT.out _ ?hq).mono ?_; (case hq => exact HL.out.below (by first | exact (Below.refl _ _).alloc (Nat.le_refl _) _ | exact ((Below.refl _ _).alloc (Nat.le_refl _) _).drew)); rintro e w1 ⟨rfl, hw1⟩; have hx : w1.heap[w.heap.size]? = some (.cells #[.int .i64 op, .int .i64 a, .int .i64 b, .int .i64 c] 29 (0, 0)) := (by rw [hw1]; exact (Below.heap_alloc _ _ _ (by simp)).trans (MapKept.heap_alloc w _).1); have hB : Below w.heap.size w w1 := (by rw [hw1]; exact Below.alloc (by first | exact (Below.refl _ _).alloc (Nat.le_refl _) _ | exact ((Below.refl _ _).alloc (Nat.le_refl _) _).drew) (by simp) _); have k0 : w1.cell? ⟨w.heap.size, 0, none⟩ = some (.int .i64 op) := (by rw [Lib.cell_of_heap hx]; rfl); have HX := Lib.hid hx; have HB := Lib.hid hB; clear hw1 hx hB)
      | (go_at_call 20; refine (outside2_any _ _ _ false (by simp; omega) _).mono ?_; rintro e w2 ⟨rfl, hw2⟩; rw [hw2]; clear hw2))
    all_goals go_wp2
    all_goals (go_meet; exact ⟨rfl, HX.out, HB.out⟩)
  case rest =>
    obtain ⟨rfl, hx, hb⟩ := hcut
    have hlt : w.heap.size < wc.heap.size := (Array.getElem?_eq_some_iff.1 hx).1
    have HX := Lib.hid hx
    have HB := Lib.hid hb
    clear hx hb
    have e1 : (Instr.mapUpdate 90 (.map (some wc.heap.size)) (.string ⟨#[65]⟩) (.agg #[.int .i64 0, .int .i64 0])).run Tryd.prog (wc.alloc (.map #[] 0)) = .ok () (wc.alloc (mapObj [(.string ⟨#[65]⟩, pairV 0 0)])) := ins_first wc _ _ trivial
    have e2 : (Instr.mapUpdate 90 (.map (some wc.heap.size)) (.string ⟨#[66]⟩) (.agg #[.int .i64 0, .int .i64 0])).run Tryd.prog (wc.alloc (mapObj [(.string ⟨#[65]⟩, pairV 0 0)])) = .ok () (wc.alloc (mapObj [(.string ⟨#[65]⟩, pairV 0 0), (.string ⟨#[66]⟩, pairV 0 0)])) := ins_more wc _ (fun x hx => by simp at hx; subst hx; trivial) _ _ trivial
    have e3 : (Instr.mapUpdate 90 (.map (some wc.heap.size)) (.string ⟨#[67]⟩) (.agg #[.int .i64 0, .int .i64 0])).run Tryd.prog (wc.alloc (mapObj [(.string ⟨#[65]⟩, pairV 0 0), (.string ⟨#[66]⟩, pairV 0 0)])) = .ok () (wc.alloc (Bnd.obj ⟨0, 0, 0, 0⟩)) := ins_more wc _ (fun x hx => by simp at hx; rcases hx with rfl | rfl <;> trivial) _ _ trivial
    have hmm := @run_makeMap Tryd.prog
    obtain ⟨W, hW⟩ : ∃ W, wc.alloc (Bnd.obj ⟨0, 0, 0, 0⟩) = W := ⟨_, rfl⟩
    have hbx : W.heap[w.heap.size]? = some (.cells #[.int .i64 op, .int .i64 a, .int .i64 b, .int .i64 c] 29 (0, 0)) := by rw [← hW]; exact (Below.heap_alloc _ _ _ hlt).trans HX.out
    have hbm : W.heap[wc.heap.size]? = some (Bnd.obj ⟨0, 0, 0, 0⟩) := by rw [← hW]; exact (MapKept.heap_alloc wc _).1
    have hbW : Below w.heap.size w W := by rw [← hW]; exact HB.out.alloc (Nat.le_of_lt hlt) _
    have hWs : wc.heap.size < W.heap.size := by rw [← hW]; simp
    have HBX := Lib.hid hbx
    have HBM := Lib.hid hbm
    have HBW := Lib.hid hbW
    have kop : W.cell? ⟨w.heap.size, 0, none⟩ = some (.int .i64 op) := by rw [Lib.cell_of_heap hbx]; rfl
    obtain ⟨mb, hmb⟩ : ∃ mb, wc.heap.size = mb := ⟨_, rfl⟩
    rw [hmb] at hWs hlt
    have HBM2 : Hid (W.heap[mb]? = some (Bnd.obj ⟨0, 0, 0, 0⟩)) := by show _ = _; rw [← hmb]; exact hbm
    rw [hmb] at e1 e2 e3
    have hmm' : (Instr.makeMap 90 none).run Tryd.prog wc = .ok (.map (some mb)) (wc.alloc (.map #[] 0)) := by rw [← hmb]; exact run_makeMap 90 wc
    clear hmm
    go_upto_region 4 with fail
    clear e1 e2 e3 hmm' hbx hbm hbW HBM HX HB hW hmb
    obtain ⟨m, hm⟩ : ∃ m, ws.length = m + 1 := ⟨ws.length - 1, by omega⟩
    have CSp := Lib.hid (split_any row (by omega))
    rw [HW.out] at CSp
    go_cut [23, 24, 25] (fun s23 s24 s25 wx => s24 = .int .i64 (m : Int) ∧ s25 = .int .i64 0 ∧ ∃ ad wb, s23 = .slice ad m m ∧ (m = 0 ∨ ad = some ⟨wb, 1, none⟩) ∧ ChkSt w #[.int .i64 op, .int .i64 a, .int .i64 b, .int .i64 c] mb wb ws ⟨0, 0, 0, 0⟩ wx)
    case first =>
      have hmc : m = 0 ∨ m = 1 ∨ m = 2 ∨ m = 3 := by omega
      rcases hmc with rfl | rfl | rfl | rfl
      · have hml : ws.length = 1 := by omega
        rw [hml] at CSp
        have HML := Lib.hid hml
        clear hm h1 h4 hml
        go_region_with (first
          | (go_at_call 27; refine (CT.out _ ?hq).mono ?_; (case hq => exact HL.out.below (by first | exact HBW.out | exact HBW.out.drew)); rintro e w1 ⟨rfl, hw1⟩; have kr0 := strs_facts HR.out hw1; have kr : w1.cell? ⟨W.heap.size, op, none⟩ = some (.string row) := kr0; have hb1 := strs_below hw1; have hb2 : Below W.heap.size W w1 := ⟨hb1.os, hb1.tape, hb1.output, hb1.size, hb1.block⟩; have k1 : w1.cell? ⟨w.heap.size, 0, none⟩ = some (.int .i64 op) := old_cell hb2 (Nat.lt_trans hlt hWs) kop; have HW1 := Lib.hid hb2; clear hw1 kr0 hb1 hb2)
          | (go_at_call 26; refine (CSp.out _ ?hq).mono ?_; (case hq => exact HL.out.below (HBW.out.trans (HW1.out.mono (by omega)))); rintro e w2 ⟨rfl, hw2⟩; have hk2 := strs_block hw2; have hb2 := strs_below hw2; have k2 : w2.cell? ⟨w.heap.size, 0, none⟩ = some (.int .i64 op) := old_cell hb2 (Nat.lt_of_lt_of_le (Nat.lt_trans hlt hWs) HW1.out.size) k1; have HK2 := Lib.hid hk2; have HW2 := Lib.hid hb2; clear hw2 hk2 hb2))
        all_goals go_wp2
        all_goals go_meet
        all_goals exact ⟨rfl, rfl, _, _, rfl, by first | exact .inl trivial | exact .inl rfl | exact .inr rfl, chkSt_mk HBX.out HBM2 HW1.out HK2.out HW2.out HBW.out hlt hWs⟩
      · have hml : ws.length = 2 := by omega
        rw [hml] at CSp
        have HML := Lib.hid hml
        clear hm h1 h4 hml
        go_region_with (first
          | (go_at_call 27; refine (CT.out _ ?hq).mono ?_; (case hq => exact HL.out.below (by first | exact HBW.out | exact HBW.out.drew)); rintro e w1 ⟨rfl, hw1⟩; have kr0 := strs_facts HR.out hw1; have kr : w1.cell? ⟨W.heap.size, op, none⟩ = some (.string row) := kr0; have hb1 := strs_below hw1; have hb2 : Below W.heap.size W w1 := ⟨hb1.os, hb1.tape, hb1.output, hb1.size, hb1.block⟩; have k1 : w1.cell? ⟨w.heap.size, 0, none⟩ = some (.int .i64 op) := old_cell hb2 (Nat.lt_trans hlt hWs) kop; have HW1 := Lib.hid hb2; clear hw1 kr0 hb1 hb2)
          | (go_at_call 26; refine (CSp.out _ ?hq).mono ?_; (case hq => exact HL.out.below (HBW.out.trans (HW1.out.mono (by omega)))); rintro e w2 ⟨rfl, hw2⟩; have hk2 := strs_block hw2; have hb2 := strs_below hw2; have k2 : w2.cell? ⟨w.heap.size, 0, none⟩ = some (.int .i64 op) := old_cell hb2 (Nat.lt_of_lt_of_le (Nat.lt_trans hlt hWs) HW1.out.size) k1; have HK2 := Lib.hid hk2; have HW2 := Lib.hid hb2; clear hw2 hk2 hb2))
        all_goals go_wp2
        all_goals go_meet
        all_goals exact ⟨rfl, rfl, _, _, rfl, by first | exact .inl trivial | exact .inl rfl | exact .inr rfl, chkSt_mk HBX.out HBM2 HW1.out HK2.out HW2.out HBW.out hlt hWs⟩
      · have hml : ws.length = 3 := by omega
        rw [hml] at CSp
        have HML := Lib.hid hml
        clear hm h1 h4 hml
        go_region_with (first
          | (go_at_call 27; refine (CT.out _ ?hq).mono ?_; (case hq => exact HL.out.below (by first | exact HBW.out | exact HBW.out.drew)); rintro e w1 ⟨rfl, hw1⟩; have kr0 := strs_facts HR.out hw1; have kr : w1.cell? ⟨W.heap.size, op, none⟩ = some (.string row) := kr0; have hb1 := strs_below hw1; have hb2 : Below W.heap.size W w1 := ⟨hb1.os, hb1.tape, hb1.output, hb1.size, hb1.block⟩; have k1 : w1.cell? ⟨w.heap.size, 0, none⟩ = some (.int .i64 op) := old_cell hb2 (Nat.lt_trans hlt hWs) kop; have HW1 := Lib.hid hb2; clear hw1 kr0 hb1 hb2)
          | (go_at_call 26; refine (CSp.out _ ?hq).mono ?_; (case hq => exact HL.out.below (HBW.out.trans (HW1.out.mono (by omega)))); rintro e w2 ⟨rfl, hw2⟩; have hk2 := strs_block hw2; have hb2 := strs_below hw2; have k2 : w2.cell? ⟨w.heap.size, 0, none⟩ = some (.int .i64 op) := old_cell hb2 (Nat.lt_of_lt_of_le (Nat.lt_trans hlt hWs) HW1.out.size) k1; have HK2 := Lib.hid hk2; have HW2 := Lib.hid hb2; clear hw2 hk2 hb2))
        all_goals go_wp2
        all_goals go_meet
        all_goals exact ⟨rfl, rfl, _, _, rfl, by first | exact .inl trivial | exact .inl rfl | exact .inr rfl, chkSt_mk HBX.out HBM2 HW1.out HK2.out HW2.out HBW.out hlt hWs⟩
      · have hml : ws.length = 4 := by omega
        rw [hml] at CSp
        have HML := Lib.hid hml
        clear hm h1 h4 hml
        go_region_with (first
          | (go_at_call 27; refine (CT.out _ ?hq).mono ?_; (case hq => exact HL.out.below (by first | exact HBW.out | exact HBW.out.drew)); rintro e w1 ⟨rfl, hw1⟩; have kr0 := strs_facts HR.out hw1; have kr : w1.cell? ⟨W.heap.size, op, none⟩ = some (.string row) := kr0; have hb1 := strs_below hw1; have hb2 : Below W.heap.size W w1 := ⟨hb1.os, hb1.tape, hb1.output, hb1.size, hb1.block⟩; have k1 : w1.cell? ⟨w.heap.size, 0, none⟩ = some (.int .i64 op) := old_cell hb2 (Nat.lt_trans hlt hWs) kop; have HW1 := Lib.hid hb2; clear hw1 kr0 hb1 hb2)
          | (go_at_call 26; refine (CSp.out _ ?hq).mono ?_; (case hq => exact HL.out.below (HBW.out.trans (HW1.out.mono (by omega)))); rintro e w2 ⟨rfl, hw2⟩; have hk2 := strs_block hw2; have hb2 := strs_below hw2; have k2 : w2.cell? ⟨w.heap.size, 0, none⟩ = some (.int .i64 op) := old_cell hb2 (Nat.lt_of_lt_of_le (Nat.lt_trans hlt hWs) HW1.out.size) k1; have HK2 := Lib.hid hk2; have HW2 := Lib.hid hb2; clear hw2 hk2 hb2))
        all_goals go_wp2
        all_goals go_meet
        all_goals exact ⟨rfl, rfl, _, _, rfl, by first | exact .inl trivial | exact .inl rfl | exact .inr rfl, chkSt_mk HBX.out HBM2 HW1.out HK2.out HW2.out HBW.out hlt hWs⟩
    case rest =>
      obtain ⟨rfl, rfl, ad, wb, rfl, had, hst⟩ := hcut
      rename_i wc2
      have HST := Lib.hid hst
      clear hst HBX HBM2 HBW hWs kop CSp
      go_wp2
      go_loopg [5, 25] m (fun gk _ s25 wx => ∃ (k : Nat) (s : Bnd), s25 = .int .i64 (k : Int) ∧ k ≤ m ∧ m ≤ k + gk ∧ Hid (((ws.drop 1).take k).foldl Bnd.step ⟨0, 0, 0, 0⟩ = s) ∧ ChkSt w #[.int .i64 op, .int .i64 a, .int .i64 b, .int .i64 c] mb wb ws s wx)
      case atStart => exact ⟨0, _, rfl, Nat.zero_le _, by omega, rfl, HST.out⟩
      case round =>
        obtain ⟨k, s, rfl, hk, hfu, hs, hst⟩ := hrel
        by_cases hlt2 : k < m
        · obtain ⟨g', rfl⟩ : ∃ g', gk = g' + 1 := ⟨gk - 1, by omega⟩
          obtain ⟨x, hx⟩ : ∃ x, ws[1 + k]? = some x := ⟨_, List.getElem?_eq_getElem (by omega)⟩
          have hcell := hst.cell (1 + k) x hx
          have hsx : isSign x = true := by
            have h := HS.out
            rw [List.all_eq_true] at h
            exact h x (List.mem_of_getElem? (by rw [List.getElem?_drop]; exact hx))
          have hs' : Hid (((ws.drop 1).take (k + 1)).foldl Bnd.step ⟨0, 0, 0, 0⟩ = s.step x) := by
            show _ = _
            rw [List.take_add_one, List.getElem?_drop, hx, List.foldl_append, hs.out]
            rfl
          obtain rfl : ad = some ⟨wb, 1, none⟩ := had.resolve_left (by omega)
          have hHX := Lib.hid hx
          have HST2 := Lib.hid hst
          have hsz : 1 + k < ws.length := by omega
          have hcs : x = ⟨#[65]⟩ ∨ x = ⟨#[66]⟩ ∨ x = ⟨#[110]⟩ ∨ x = ⟨#[114]⟩ ∨ x = ⟨#[112]⟩ ∨ x = ⟨#[113]⟩ ∨ x = ⟨#[109]⟩ := by simpa [isSign, or_assoc] using hsx
          have HS2 := Lib.hid hs'
          clear hx hs hsx hst hs' hm
          rcases hcs with rfl | rfl | rfl | rfl | rfl | rfl | rfl
          · have hu : (Instr.mapUpdate 90 (.map (some mb)) (.string ⟨#[65]⟩) (.agg #[.int .i64 0, .int .i64 7])).run Tryd.prog wr = .ok () (wr.putObj mb (s.step ⟨#[65]⟩).obj) := upd_bnd HST2.out.map _ _ (keyS _) _ rfl
            go_wp2
            go_roundg g'
            case measure => omega
            case rel => exact ⟨k + 1, _, by go_num, by omega, by omega, HS2.out, HST2.out.put⟩
          · have hu : (Instr.mapUpdate 90 (.map (some mb)) (.string ⟨#[66]⟩) (.agg #[.int .i64 0, .int .i64 7])).run Tryd.prog wr = .ok () (wr.putObj mb (s.step ⟨#[66]⟩).obj) := upd_bnd HST2.out.map _ _ (keyS _) _ rfl
            go_wp2
            go_roundg g'
            case measure => omega
            case rel => exact ⟨k + 1, _, by go_num, by omega, by omega, HS2.out, HST2.out.put⟩
          · have q0 : (Instr.makeMap 90 none).run Tryd.prog wr = .ok (.map (some wr.heap.size)) (wr.alloc (litObj 0)) := run_makeMap 90 wr
            have q1 : (Instr.mapUpdate 90 (.map (some wr.heap.size)) (.string ⟨#[110]⟩) (.agg #[.int .i64 (-2048), .int .i64 2047])).run Tryd.prog (wr.alloc (litObj 0)) = .ok () (wr.alloc (litObj 1)) := lit_ins wr 0
            have q2 : (Instr.mapUpdate 90 (.map (some wr.heap.size)) (.string ⟨#[114]⟩) (.agg #[.int .i64 0, .int .i64 7])).run Tryd.prog (wr.alloc (litObj 1)) = .ok () (wr.alloc (litObj 2)) := lit_ins wr 1
            have q3 : (Instr.mapUpdate 90 (.map (some wr.heap.size)) (.string ⟨#[112]⟩) (.agg #[.int .i64 0, .int .i64 127])).run Tryd.prog (wr.alloc (litObj 2)) = .ok () (wr.alloc (litObj 3)) := lit_ins wr 2
            have q4 : (Instr.mapUpdate 90 (.map (some wr.heap.size)) (.string ⟨#[113]⟩) (.agg #[.int .i64 0, .int .i64 5])).run Tryd.prog (wr.alloc (litObj 3)) = .ok () (wr.alloc (litObj 4)) := lit_ins wr 3
            have q5 : (Instr.mapUpdate 90 (.map (some wr.heap.size)) (.string ⟨#[109]⟩) (.agg #[.int .i64 0, .int .i64 255])).run Tryd.prog (wr.alloc (litObj 4)) = .ok () (wr.alloc (litObj 5)) := lit_ins wr 4
            have q6 : (Instr.lookup 90 (.map (some wr.heap.size)) (.string ⟨#[110]⟩) false).run Tryd.prog (wr.alloc (litObj 5)) = .ok (.agg #[.int .i64 (-2048), .int .i64 2047]) (wr.alloc (litObj 5)) := lit_look wr _ (keyS _) _ rfl
            have hu : (Instr.mapUpdate 90 (.map (some mb)) (.string ⟨#[67]⟩) (.agg #[.int .i64 (-2048), .int .i64 2047])).run Tryd.prog (wr.alloc (litObj 5)) = .ok () ((wr.alloc (litObj 5)).putObj mb (s.step ⟨#[110]⟩).obj) := upd_bnd (HST2.out.alloc _).map _ _ (keyS _) _ rfl
            go_wp2
            go_roundg g'
            case measure => omega
            case rel => exact ⟨k + 1, _, by go_num, by omega, by omega, HS2.out, (HST2.out.alloc _).put⟩
          · have q0 : (Instr.makeMap 90 none).run Tryd.prog wr = .ok (.map (some wr.heap.size)) (wr.alloc (litObj 0)) := run_makeMap 90 wr
            have q1 : (Instr.mapUpdate 90 (.map (some wr.heap.size)) (.string ⟨#[110]⟩) (.agg #[.int .i64 (-2048), .int .i64 2047])).run Tryd.prog (wr.alloc (litObj 0)) = .ok () (wr.alloc (litObj 1)) := lit_ins wr 0
            have q2 : (Instr.mapUpdate 90 (.map (some wr.heap.size)) (.string ⟨#[114]⟩) (.agg #[.int .i64 0, .int .i64 7])).run Tryd.prog (wr.alloc (litObj 1)) = .ok () (wr.alloc (litObj 2)) := lit_ins wr 1
            have q3 : (Instr.mapUpdate 90 (.map (some wr.heap.size)) (.string ⟨#[112]⟩) (.agg #[.int .i64 0, .int .i64 127])).run Tryd.prog (wr.alloc (litObj 2)) = .ok () (wr.alloc (litObj 3)) := lit_ins wr 2
            have q4 : (Instr.mapUpdate 90 (.map (some wr.heap.size)) (.string ⟨#[113]⟩) (.agg #[.int .i64 0, .int .i64 5])).run Tryd.prog (wr.alloc (litObj 3)) = .ok () (wr.alloc (litObj 4)) := lit_ins wr 3
            have q5 : (Instr.mapUpdate 90 (.map (some wr.heap.size)) (.string ⟨#[109]⟩) (.agg #[.int .i64 0, .int .i64 255])).run Tryd.prog (wr.alloc (litObj 4)) = .ok () (wr.alloc (litObj 5)) := lit_ins wr 4
            have q6 : (Instr.lookup 90 (.map (some wr.heap.size)) (.string ⟨#[114]⟩) false).run Tryd.prog (wr.alloc (litObj 5)) = .ok (.agg #[.int .i64 (0), .int .i64 7]) (wr.alloc (litObj 5)) := lit_look wr _ (keyS _) _ rfl
            have hu : (Instr.mapUpdate 90 (.map (some mb)) (.string ⟨#[67]⟩) (.agg #[.int .i64 (0), .int .i64 7])).run Tryd.prog (wr.alloc (litObj 5)) = .ok () ((wr.alloc (litObj 5)).putObj mb (s.step ⟨#[114]⟩).obj) := upd_bnd (HST2.out.alloc _).map _ _ (keyS _) _ rfl
            go_wp2
            go_roundg g'
            case measure => omega
            case rel => exact ⟨k + 1, _, by go_num, by omega, by omega, HS2.out, (HST2.out.alloc _).put⟩
          · have q0 : (Instr.makeMap 90 none).run Tryd.prog wr = .ok (.map (some wr.heap.size)) (wr.alloc (litObj 0)) := run_makeMap 90 wr
            have q1 : (Instr.mapUpdate 90 (.map (some wr.heap.size)) (.string ⟨#[110]⟩) (.agg #[.int .i64 (-2048), .int .i64 2047])).run Tryd.prog (wr.alloc (litObj 0)) = .ok () (wr.alloc (litObj 1)) := lit_ins wr 0
            have q2 : (Instr.mapUpdate 90 (.map (some wr.heap.size)) (.string ⟨#[114]⟩) (.agg #[.int .i64 0, .int .i64 7])).run Tryd.prog (wr.alloc (litObj 1)) = .ok () (wr.alloc (litObj 2)) := lit_ins wr 1
            have q3 : (Instr.mapUpdate 90 (.map (some wr.heap.size)) (.string ⟨#[112]⟩) (.agg #[.int .i64 0, .int .i64 127])).run Tryd.prog (wr.alloc (litObj 2)) = .ok () (wr.alloc (litObj 3)) := lit_ins wr 2
            have q4 : (Instr.mapUpdate 90 (.map (some wr.heap.size)) (.string ⟨#[113]⟩) (.agg #[.int .i64 0, .int .i64 5])).run Tryd.prog (wr.alloc (litObj 3)) = .ok () (wr.alloc (litObj 4)) := lit_ins wr 3
            have q5 : (Instr.mapUpdate 90 (.map (some wr.heap.size)) (.string ⟨#[109]⟩) (.agg #[.int .i64 0, .int .i64 255])).run Tryd.prog (wr.alloc (litObj 4)) = .ok () (wr.alloc (litObj 5)) := lit_ins wr 4
            have q6 : (Instr.lookup 90 (.map (some wr.heap.size)) (.string ⟨#[112]⟩) false).run Tryd.prog (wr.alloc (litObj 5)) = .ok (.agg #[.int .i64 (0), .int .i64 127]) (wr.alloc (litObj 5)) := lit_look wr _ (keyS _) _ rfl
            have hu : (Instr.mapUpdate 90 (.map (some mb)) (.string ⟨#[67]⟩) (.agg #[.int .i64 (0), .int .i64 127])).run Tryd.prog (wr.alloc (litObj 5)) = .ok () ((wr.alloc (litObj 5)).putObj mb (s.step ⟨#[112]⟩).obj) := upd_bnd (HST2.out.alloc _).map _ _ (keyS _) _ rfl
            go_wp2
            go_roundg g'
            case measure => omega
            case rel => exact ⟨k + 1, _, by go_num, by omega, by omega, HS2.out, (HST2.out.alloc _).put⟩
          · have q0 : (Instr.makeMap 90 none).run Tryd.prog wr = .ok (.map (some wr.heap.size)) (wr.alloc (litObj 0)) := run_makeMap 90 wr
            have q1 : (Instr.mapUpdate 90 (.map (some wr.heap.size)) (.string ⟨#[110]⟩) (.agg #[.int .i64 (-2048), .int .i64 2047])).run Tryd.prog (wr.alloc (litObj 0)) = .ok () (wr.alloc (litObj 1)) := lit_ins wr 0
            have q2 : (Instr.mapUpdate 90 (.map (some wr.heap.size)) (.string ⟨#[114]⟩) (.agg #[.int .i64 0, .int .i64 7])).run Tryd.prog (wr.alloc (litObj 1)) = .ok () (wr.alloc (litObj 2)) := lit_ins wr 1
            have q3 : (Instr.mapUpdate 90 (.map (some wr.heap.size)) (.string ⟨#[112]⟩) (.agg #[.int .i64 0, .int .i64 127])).run Tryd.prog (wr.alloc (litObj 2)) = .ok () (wr.alloc (litObj 3)) := lit_ins wr 2
            have q4 : (Instr.mapUpdate 90 (.map (some wr.heap.size)) (.string ⟨#[113]⟩) (.agg #[.int .i64 0, .int .i64 5])).run Tryd.prog (wr.alloc (litObj 3)) = .ok () (wr.alloc (litObj 4)) := lit_ins wr 3
            have q5 : (Instr.mapUpdate 90 (.map (some wr.heap.size)) (.string ⟨#[109]⟩) (.agg #[.int .i64 0, .int .i64 255])).run Tryd.prog (wr.alloc (litObj 4)) = .ok () (wr.alloc (litObj 5)) := lit_ins wr 4
            have q6 : (Instr.lookup 90 (.map (some wr.heap.size)) (.string ⟨#[113]⟩) false).run Tryd.prog (wr.alloc (litObj 5)) = .ok (.agg #[.int .i64 (0), .int .i64 5]) (wr.alloc (litObj 5)) := lit_look wr _ (keyS _) _ rfl
            have hu : (Instr.mapUpdate 90 (.map (some mb)) (.string ⟨#[67]⟩) (.agg #[.int .i64 (0), .int .i64 5])).run Tryd.prog (wr.alloc (litObj 5)) = .ok () ((wr.alloc (litObj 5)).putObj mb (s.step ⟨#[113]⟩).obj) := upd_bnd (HST2.out.alloc _).map _ _ (keyS _) _ rfl
            go_wp2
            go_roundg g'
            case measure => omega
            case rel => exact ⟨k + 1, _, by go_num, by omega, by omega, HS2.out, (HST2.out.alloc _).put⟩
          · have q0 : (Instr.makeMap 90 none).run Tryd.prog wr = .ok (.map (some wr.heap.size)) (wr.alloc (litObj 0)) := run_makeMap 90 wr
            have q1 : (Instr.mapUpdate 90 (.map (some wr.heap.size)) (.string ⟨#[110]⟩) (.agg #[.int .i64 (-2048), .int .i64 2047])).run Tryd.prog (wr.alloc (litObj 0)) = .ok () (wr.alloc (litObj 1)) := lit_ins wr 0
            have q2 : (Instr.mapUpdate 90 (.map (some wr.heap.size)) (.string ⟨#[114]⟩) (.agg #[.int .i64 0, .int .i64 7])).run Tryd.prog (wr.alloc (litObj 1)) = .ok () (wr.alloc (litObj 2)) := lit_ins wr 1
            have q3 : (Instr.mapUpdate 90 (.map (some wr.heap.size)) (.string ⟨#[112]⟩) (.agg #[.int .i64 0, .int .i64 127])).run Tryd.prog (wr.alloc (litObj 2)) = .ok () (wr.alloc (litObj 3)) := lit_ins wr 2
            have q4 : (Instr.mapUpdate 90 (.map (some wr.heap.size)) (.string ⟨#[113]⟩) (.agg #[.int .i64 0, .int .i64 5])).run Tryd.prog (wr.alloc (litObj 3)) = .ok () (wr.alloc (litObj 4)) := lit_ins wr 3
            have q5 : (Instr.mapUpdate 90 (.map (some wr.heap.size)) (.string ⟨#[109]⟩) (.agg #[.int .i64 0, .int .i64 255])).run Tryd.prog (wr.alloc (litObj 4)) = .ok () (wr.alloc (litObj 5)) := lit_ins wr 4
            have q6 : (Instr.lookup 90 (.map (some wr.heap.size)) (.string ⟨#[109]⟩) false).run Tryd.prog (wr.alloc (litObj 5)) = .ok (.agg #[.int .i64 (0), .int .i64 255]) (wr.alloc (litObj 5)) := lit_look wr _ (keyS _) _ rfl
            have hu : (Instr.mapUpdate 90 (.map (some mb)) (.string ⟨#[67]⟩) (.agg #[.int .i64 (0), .int .i64 255])).run Tryd.prog (wr.alloc (litObj 5)) = .ok () ((wr.alloc (litObj 5)).putObj mb (s.step ⟨#[109]⟩).obj) := upd_bnd (HST2.out.alloc _).map _ _ (keyS _) _ rfl
            go_wp2
            go_roundg g'
            case measure => omega
            case rel => exact ⟨k + 1, _, by go_num, by omega, by omega, HS2.out, (HST2.out.alloc _).put⟩
        · obtain rfl : k = m := by omega
          have hfe : s = fin := by
            rw [← hs.out, ← HF.out, List.take_of_length_le (by rw [List.length_drop, hm]; omega)]
          subst hfe
          have kA : wr.cell? ⟨w.heap.size, 1, none⟩ = some (.int .i64 a) := by rw [Lib.cell_of_heap hst.box]; rfl
          have kB : wr.cell? ⟨w.heap.size, 2, none⟩ = some (.int .i64 b) := by rw [Lib.cell_of_heap hst.box]; rfl
          have kC : wr.cell? ⟨w.heap.size, 3, none⟩ = some (.int .i64 c) := by rw [Lib.cell_of_heap hst.box]; rfl
          have rA : (Instr.lookup 90 (.map (some mb)) (.string ⟨#[65]⟩) false).run Tryd.prog wr = .ok (.agg #[.int .i64 0, .int .i64 s.a]) wr := run_lookup_mapObj (P := Tryd.prog) Tryd.underlying90 Tryd.underlying9 (zero89 _) hst.map s.plain (keyS _) false
          have rB : (Instr.lookup 90 (.map (some mb)) (.string ⟨#[66]⟩) false).run Tryd.prog wr = .ok (.agg #[.int .i64 0, .int .i64 s.b]) wr := run_lookup_mapObj (P := Tryd.prog) Tryd.underlying90 Tryd.underlying9 (zero89 _) hst.map s.plain (keyS _) false
          have rC : (Instr.lookup 90 (.map (some mb)) (.string ⟨#[67]⟩) false).run Tryd.prog wr = .ok (.agg #[.int .i64 s.lo, .int .i64 s.hi]) wr := run_lookup_mapObj (P := Tryd.prog) Tryd.underlying90 Tryd.underlying9 (zero89 _) hst.map s.plain (keyS _) false
          have HEND := Lib.hid hst.below
          obtain ⟨sA, sB, sL, sH⟩ := s
          clear hst hs HF HST
          have hq := HQ.out
          clear HQ
          simp only at rA rB rC hq
          obtain ⟨oA, hoA⟩ : ∃ oA, (decide (a < 0) || decide (sA < a)) = oA := ⟨_, rfl⟩
          obtain ⟨oB, hoB⟩ : ∃ oB, (decide (b < 0) || decide (sB < b)) = oB := ⟨_, rfl⟩
          obtain ⟨oC, hoC⟩ : ∃ oC, (decide (c < sL) || decide (sH < c)) = oC := ⟨_, rfl⟩
          rw [hoA, hoB, hoC] at hq
          have CA := Lib.hid (outside2_any a 0 sA oA hoA)
          have CB := Lib.hid (outside2_any b 0 sB oB hoB)
          have CC := Lib.hid (outside2_any c sL sH oC hoC)
          clear hoA hoB hoC
          have i0 := idx0
          have i1 := idx1
          cases oA <;> cases oB <;> cases oC
          all_goals simp only [Bool.not_true, Bool.not_false, Bool.true_and, Bool.false_and, Bool.and_true, Bool.and_false] at hq
          all_goals (have HQ := Lib.hid hq; clear hq)
          all_goals go_wp2_with (first
            | (go_at_call 20; (with_reducible refine (CA.out _).mono ?_); rintro e w2 ⟨rfl, hw2⟩; rw [hw2]; clear hw2)
            | (go_at_call 20; (with_reducible refine (CB.out _).mono ?_); rintro e w2 ⟨rfl, hw2⟩; rw [hw2]; clear hw2)
            | (go_at_call 20; (with_reducible refine (CC.out _).mono ?_); rintro e w2 ⟨rfl, hw2⟩; rw [hw2]; clear hw2))
          all_goals go_ret
          all_goals exact ⟨by rw [← HQ.out]; rfl, HEND.out⟩
end Go.Proofs.YtljjdkjmciheeaaDoor.P
