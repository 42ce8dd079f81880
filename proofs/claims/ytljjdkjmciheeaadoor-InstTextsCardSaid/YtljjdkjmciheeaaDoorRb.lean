/- The reference's table, its rows' words, and InstCheck's map of bounds. -/
import Derived.Test.YtljjdkjmciheeaaDoorRa
import Derived.Test.YtljjdkjmciheeaaDoorMa
import Derived.Test.YtljjdkjmciheeaaDoorSp
namespace Go.Proofs.YtljjdkjmciheeaaDoor.P
open Go.RowKit Go.Lib

def tableText : ByteArray := ⟨#[104, 97, 108, 116, 59, 115, 101, 116, 32, 65, 32, 110, 59, 99, 111, 112, 121, 32, 65, 32, 66, 59, 97, 100, 100, 32, 65, 32, 66, 32, 114, 59, 115, 117, 98, 32, 65, 32, 66, 32, 114, 59, 109, 117, 108, 32, 65, 32, 66, 32, 114, 59, 100, 105, 118, 32, 65, 32, 66, 32, 114, 59, 108, 101, 115, 115, 32, 65, 32, 66, 32, 114, 59, 106, 117, 109, 112, 32, 110, 59, 105, 102, 32, 65, 32, 110, 59, 108, 111, 97, 100, 32, 65, 32, 66, 32, 110, 59, 115, 116, 111, 114, 101, 32, 65, 32, 66, 32, 110, 59, 109, 111, 118, 101, 32, 65, 32, 66, 32, 114, 59, 110, 97, 114, 114, 111, 119, 32, 65, 32, 66, 32, 114, 59, 100, 114, 111, 112, 32, 65, 32, 66, 32, 112, 59, 115, 101, 97, 108, 32, 65, 32, 66, 32, 114, 59, 111, 112, 101, 110, 32, 65, 32, 66, 32, 114, 59, 97, 115, 107, 32, 65, 32, 66, 32, 113, 59, 99, 97, 108, 108, 32, 65, 32, 66, 59, 98, 97, 99, 107, 59, 104, 101, 114, 101, 32, 65, 59, 99, 108, 101, 97, 114, 32, 109, 59, 116, 101, 108, 108, 32, 65]⟩
def tableB : List ByteArray := [⟨#[104, 97, 108, 116]⟩, ⟨#[115, 101, 116, 32, 65, 32, 110]⟩, ⟨#[99, 111, 112, 121, 32, 65, 32, 66]⟩, ⟨#[97, 100, 100, 32, 65, 32, 66, 32, 114]⟩, ⟨#[115, 117, 98, 32, 65, 32, 66, 32, 114]⟩, ⟨#[109, 117, 108, 32, 65, 32, 66, 32, 114]⟩, ⟨#[100, 105, 118, 32, 65, 32, 66, 32, 114]⟩, ⟨#[108, 101, 115, 115, 32, 65, 32, 66, 32, 114]⟩, ⟨#[106, 117, 109, 112, 32, 110]⟩, ⟨#[105, 102, 32, 65, 32, 110]⟩, ⟨#[108, 111, 97, 100, 32, 65, 32, 66, 32, 110]⟩, ⟨#[115, 116, 111, 114, 101, 32, 65, 32, 66, 32, 110]⟩, ⟨#[109, 111, 118, 101, 32, 65, 32, 66, 32, 114]⟩, ⟨#[110, 97, 114, 114, 111, 119, 32, 65, 32, 66, 32, 114]⟩, ⟨#[100, 114, 111, 112, 32, 65, 32, 66, 32, 112]⟩, ⟨#[115, 101, 97, 108, 32, 65, 32, 66, 32, 114]⟩, ⟨#[111, 112, 101, 110, 32, 65, 32, 66, 32, 114]⟩, ⟨#[97, 115, 107, 32, 65, 32, 66, 32, 113]⟩, ⟨#[99, 97, 108, 108, 32, 65, 32, 66]⟩, ⟨#[98, 97, 99, 107]⟩, ⟨#[104, 101, 114, 101, 32, 65]⟩, ⟨#[99, 108, 101, 97, 114, 32, 109]⟩, ⟨#[116, 101, 108, 108, 32, 65]⟩]
/-- What lies between the blanks. -/
def splitSp (s : ByteArray) : List ByteArray := (splitC 32 s.data.toList).map fun l => (⟨l.toArray⟩ : ByteArray)
theorem table_split : Lib.splitB ⟨#[59]⟩ 0 (Lib.countB tableText ⟨#[59]⟩) tableText = tableB ∧ Lib.countB tableText ⟨#[59]⟩ = 22 := by
  constructor
  · rw [splitB_C]; decide +kernel
  · rw [countB_C]; decide +kernel
theorem table_any (w : World) (hl : LaidW w) :
    Calls Tryd.prog 27 #[] w fun e w' => e = .returned (.slice (some ⟨w.heap.size, 0, none⟩) 23 23) ∧ w' = w.alloc (.cells (tableB.map Value.string).toArray 9) := by
  obtain ⟨m, hm⟩ := hl.m
  have h := Tryd.strings_Split tableText ⟨#[59]⟩ m w (by decide +kernel) hm (by decide)
  rw [table_split.1, table_split.2] at h
  have h' : Calls Tryd.prog 26 #[.string tableText, .string ⟨#[59]⟩] w fun e w' => e = .returned (.slice (some ⟨w.heap.size, 0, none⟩) 23 23) ∧ w' = w.alloc (.cells (tableB.map Value.string).toArray 9) := h
  have HS := Lib.hid h'
  clear h h' hl hm
  go_enter Tryd.func27, Tryd.ntmps27
  go_wp2_with fail
  refine HS.out.mono ?_
  rintro e w1 ⟨rfl, rfl⟩
  go_wp2
  go_ret
  exact ⟨rfl, rfl⟩
theorem splitSp_eq (s : ByteArray) : Lib.splitB ⟨#[32]⟩ 0 (Lib.countB s ⟨#[32]⟩) s = splitSp s := splitB_C 32 s
theorem splitSp_len (s : ByteArray) : (splitSp s).length = Lib.countB s ⟨#[32]⟩ + 1 := by rw [← splitSp_eq]; exact Lib.splitB_all ⟨#[32]⟩ (by decide) 0 _ s rfl
theorem split_any (s : ByteArray) (hs : s.size < 4294967281) (w : World) (hl : LaidW w) :
    Calls Tryd.prog 26 #[.string s, .string ⟨#[32]⟩] w fun e w' => e = .returned (.slice (some ⟨w.heap.size, 0, none⟩) (splitSp s).length (splitSp s).length) ∧ w' = w.alloc (.cells ((splitSp s).map Value.string).toArray 9) := by
  obtain ⟨m, hm⟩ := hl.m
  have h := Tryd.strings_Split s ⟨#[32]⟩ m w hs hm (by decide)
  rw [splitSp_len, ← splitSp_eq]
  exact h

/-- The bounds that the reference's check has found: the highest A and B; C from lo to hi. -/
structure Bnd where
  a : Int
  b : Int
  lo : Int
  hi : Int
def Bnd.step (s : Bnd) (w : ByteArray) : Bnd :=
  if w = ⟨#[65]⟩ then { s with a := 7 } else if w = ⟨#[66]⟩ then { s with b := 7 } else
  if w = ⟨#[110]⟩ then { s with lo := -2048, hi := 2047 } else if w = ⟨#[114]⟩ then { s with lo := 0, hi := 7 } else if w = ⟨#[112]⟩ then { s with lo := 0, hi := 127 } else
  if w = ⟨#[113]⟩ then { s with lo := 0, hi := 5 } else if w = ⟨#[109]⟩ then { s with lo := 0, hi := 255 } else s
def isSign (w : ByteArray) : Bool := w = ⟨#[65]⟩ || w = ⟨#[66]⟩ || w = ⟨#[110]⟩ || w = ⟨#[114]⟩ || w = ⟨#[112]⟩ || w = ⟨#[113]⟩ || w = ⟨#[109]⟩
abbrev pairV (lo hi : Int) : Value := .agg #[.int .i64 lo, .int .i64 hi]
def Bnd.ents (s : Bnd) : List (Value × Value) := [(.string ⟨#[65]⟩, pairV 0 s.a), (.string ⟨#[66]⟩, pairV 0 s.b), (.string ⟨#[67]⟩, pairV s.lo s.hi)]
def Bnd.obj (s : Bnd) : Obj := mapObj s.ents
theorem Bnd.plain (s : Bnd) : PlainKeys .string s.ents := by
  intro x hx
  simp only [Bnd.ents, List.mem_cons, List.mem_nil_iff, or_false] at hx
  rcases hx with rfl | rfl | rfl <;> trivial
def litE : List (Value × Value) := [(.string ⟨#[110]⟩, pairV (-2048) 2047), (.string ⟨#[114]⟩, pairV 0 7), (.string ⟨#[112]⟩, pairV 0 127), (.string ⟨#[113]⟩, pairV 0 5), (.string ⟨#[109]⟩, pairV 0 255)]
theorem litE_plain (k : Nat) : PlainKeys .string (litE.take k) := by
  intro x hx
  have hx := List.mem_of_mem_take hx
  simp only [litE, List.mem_cons, List.mem_nil_iff, or_false] at hx
  rcases hx with rfl | rfl | rfl | rfl | rfl <;> trivial
theorem zero89 (w : World) : (zeroValue 89).run Tryd.prog w = .ok (pairV 0 0) w := by kernel_rfl

/-- Each row of the table: its words are the Op's word and then signs; and the bounds that come of them are those of the Op's shape. -/
theorem rows_fit : ∀ op : Fin 23, ((splitSp (tableB.getD op.val ⟨#[]⟩)).headD ⟨#[]⟩ = ((shapeOf (op.val : Int)).getD noShape).word) ∧ ((splitSp (tableB.getD op.val ⟨#[]⟩)).drop 1).all isSign = true ∧ (tableB.getD op.val ⟨#[]⟩).size < 100 ∧ (splitSp (tableB.getD op.val ⟨#[]⟩)).length ≤ 4 ∧
    (let b := ((splitSp (tableB.getD op.val ⟨#[]⟩)).drop 1).foldl Bnd.step ⟨0, 0, 0, 0⟩; let s := (shapeOf (op.val : Int)).getD noShape; b.a = (if s.a then 7 else 0) ∧ b.b = (if s.b then 7 else 0) ∧ b.lo = loC s.c ∧ b.hi = hiC s.c) := by decide +kernel
end Go.Proofs.YtljjdkjmciheeaaDoor.P
