/- The contract of file.Pack, by hand: what is appended to a captured slice of bytes. -/
import Derived.Test.YtljjdkjmciheeaaFc
namespace Go.Proofs.Ytljjdkjmciheeaa.P
open Go.RowKit Go.Proofs.YtljjdkjmciheeaaW.PrintWords Go.Proofs.YtljjdkjmciheeaaW.PrintLast Go.Proofs.YtljjdkjmciheeaaW.PrintMore
open Go.Shelf Go.Lib
set_option linter.unusedVariables false

theorem lit_reads (W : World) (t : Nat) (ys : List Int) (hl : ys.length ≤ 1000) : ReadsInt (W.alloc (.cells (nums .u8 ys).toArray t)) .u8 (some ⟨W.heap.size, 0, none⟩) ys.length ys := by
  have h := World.ownsRow_lit (base := W.heap.size) (e := t) (size := 1) W (nums .u8 ys).toArray ys.length (Nat.le_refl _) (by unfold maxLen; omega) (by simp [nums])
  obtain ⟨A, c, e1, h1⟩ := own_reads (k := .u8) (xs := ys) (by simpa using h)
  injection e1 with e1
  subst e1
  exact h1

/-- A variable in block B that holds a slice of bytes of the call's own. -/
structure BSt (base B : Nat) (w : World) (v : Value) (xs : List Int) : Prop where
  cell : w.heap[B]? = some (.cells #[v] 52 (0, 0))
  own : w.ownsRow base 5 1 v xs.length (nums .u8 xs)
  le : base ≤ B

theorem BSt.size {base B : Nat} {w : World} {v : Value} {xs : List Int} (h : BSt base B w v xs) : base ≤ w.heap.size := Nat.le_trans h.le (Nat.le_of_lt (blk_lt h.cell))
theorem BSt.later {base B : Nat} {w w1 : World} {v : Value} {xs : List Int} (h : BSt base B w v xs) (hb : Below w.heap.size w w1) : BSt base B w1 v xs := ⟨blk_below h.cell hb, pw_own_below h.own hb, h.le⟩
theorem own_cell {base B : Nat} {w w1 : World} {v0 v : Value} {xs : List Int} (hc : w.heap[B]? = some (.cells #[v0] 52 (0, 0))) (h : w.ownsRow base 5 1 v xs.length (nums .u8 xs)) (hg : w.grownBy w1 v.ownBlock) : w1.heap[B]? = some (.cells #[v0] 52 (0, 0)) :=
  blk_grown hc hg (fun he => by
    obtain ⟨cells, h1⟩ := own_typed h B he.symm
    rw [hc] at h1
    injection h1 with h1
    injection h1 with _ h1
    cases h1)
theorem own_cell_lit {base B : Nat} {w w1 : World} {v0 v : Value} {xs : List Int} (hc : w.heap[B]? = some (.cells #[v0] 52 (0, 0))) (h : w.ownsRow base 5 1 v xs.length (nums .u8 xs)) (o : Obj) (hg : (w.alloc o).grownBy w1 v.ownBlock) : w1.heap[B]? = some (.cells #[v0] 52 (0, 0)) :=
  own_cell (blk_alloc hc _) (h.alloc _) hg
theorem BSt.cell_lit {base B : Nat} {w w1 : World} {v : Value} {xs : List Int} (h : BSt base B w v xs) (o : Obj) (hg : (w.alloc o).grownBy w1 v.ownBlock) : w1.heap[B]? = some (.cells #[v] 52 (0, 0)) :=
  own_cell_lit h.cell h.own o hg
theorem BSt.put {base B : Nat} {w : World} {v0 v : Value} {xs : List Int} (hc : w.heap[B]? = some (.cells #[v0] 52 (0, 0))) (ho : w.ownsRow base 5 1 v xs.length (nums .u8 xs)) (hl : base ≤ B) : BSt base B (w.setCell ⟨B, 0, none⟩ v) v xs := by
  refine ⟨by simpa using blk_set hc 0 v, ?_, hl⟩
  refine own_move ho (fun k hk => Below.heap_setCell w ⟨B, 0, none⟩ v k ?_)
  rintro rfl
  obtain ⟨cells, h1⟩ := own_typed ho k hk
  rw [hc] at h1
  injection h1 with h1
  injection h1 with _ h1
  cases h1

theorem own_shape {w : World} {base n : Nat} {e : TypeId} {size : Nat} {v : Value} {xs : List Value} (h : w.ownsRow base e size v n xs) : ∃ A m c, v = .slice A m c := by
  obtain ⟨A, c, h⟩ := own_slice h
  exact ⟨_, _, _, h⟩
theorem info5u : (Try.prog.info? 5).map (fun i => (i.zero, i.size, i.bytes)) = some (some (.int .u8 0), 1, 1) := by kernel_rfl

set_option maxHeartbeats 4000000 in
set_option maxRecDepth 100000 in
theorem name_any (s : ByteArray) (n : Int) (base B : Nat) (w : World) (v : Value) (xs : List Int) (hS : BSt base B w v xs) (hl : xs.length + s.size ≤ 1000000) :
    Calls Try.prog 16 #[.string s, .int .i64 n, .pointer (some ⟨B, 0, none⟩)] w fun e w' => e = .returned (.tuple #[]) ∧ (∃ v', BSt base B w' v' (xs ++ [(s.size : Int) % 256] ++ bytesOf s ++ [n % 256])) ∧ Below base w w' := by
  have HS := Aside0.mk hS
  have hc := blk_cell hS.cell 0
  simp at hc
  clear hS
  go_enter Try.func16, Try.ntmps16
  go_wp2_with (first
    | (at_builtin; refine print_append_row (w0 := w) base rfl (.tmp 5) (.tmp 9) 52 5 .u8 1 rfl Try.underlying52 info5u (by decide) v xs [(s.size : Int) % 256] _ 1 1 rfl rfl (HS.out.own.alloc _) (lit_reads w 5 [(s.size : Int) % 256] (by simp)) ((Below.refl _ _).alloc HS.out.size _) (by have := HS.out.size; simp; omega) (by simp; omega) ?_; intro v1 w1 ho hb hg _; have HO1 := Aside0.mk ho; have HB1 := Aside0.mk hb; have HC1 := Aside0.mk (HS.out.cell_lit _ hg); clear ho hb hg)
    | (at_builtin; refine print_append_str (w0 := w) base rfl (.tmp 10) (.tmp 11) 52 9 5 rfl Try.underlying52 Try.underlying9 info5u v1 (xs ++ [(s.size : Int) % 256]) s rfl rfl HO1.out HB1.out (Nat.le_trans HS.out.le (Nat.le_of_lt (blk_lt HC1.out))) (by simp; omega) ?_; intro v2 w2 ho hb hg; have HO2 := Aside0.mk ho; have HB2 := Aside0.mk hb; have HC2 := Aside0.mk (own_cell HC1.out HO1.out hg); clear ho hb hg)
    | (at_builtin; refine print_append_row (w0 := w) base rfl (.tmp 12) (.tmp 15) 52 5 .u8 1 rfl Try.underlying52 info5u (by decide) v2 (xs ++ [(s.size : Int) % 256] ++ bytesOf s) [n % 256] _ 1 1 rfl rfl (HO2.out.alloc _) (lit_reads w2 5 [n % 256] (by simp)) (HB2.out.alloc (Nat.le_trans HS.out.le (Nat.le_of_lt (blk_lt HC2.out))) _) (by have := Nat.le_trans HS.out.le (Nat.le_of_lt (blk_lt HC2.out)); simp; omega) (by simp [bytesOf_length]; omega) ?_; intro v3 w3 ho hb hg _; obtain ⟨A3, m3, c3, rfl⟩ := own_shape ho; have HO3 := Aside0.mk ho; have HB3 := Aside0.mk hb; have HC3 := Aside0.mk (own_cell_lit HC2.out HO2.out _ hg); clear ho hb hg; have hz3 := blk_cell HC3.out 0; have hfz3 := blk_frozen HC3.out 0; simp at hz3))
  go_end0
  exact ⟨rfl, ⟨_, BSt.put HC3.out HO3.out HS.out.le⟩, HB3.out.setCell HS.out.le _⟩

end Go.Proofs.Ytljjdkjmciheeaa.P
