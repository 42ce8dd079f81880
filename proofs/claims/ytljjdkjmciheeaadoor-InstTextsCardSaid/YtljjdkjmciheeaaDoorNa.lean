/- The tables of the library that the program's texts read, kept while memory grows; the words of the instructions; the shape of an Op. -/
import Derived.Test.YtljjdkjmciheeaaDoorProg
import Derived.Test.YtljjdkjmciheeaaDoorSb
import Derived.Below
import Derived.Deep.Draws
import Derived.Tactics
import Derived.WalkKit
import Derived.KernelRfl
import Derived.RowKit3
import Derived.Deep.LoopGhost
import Derived.Deep.QuietTactic
import Derived.BigQuiet
import Derived.Deep.CutBlock
import Derived.Deep.RegionHeld3
import Derived.Laws.Rows
import Derived.Laws.BitsLemmas
import Derived.RowKit
import Derived.Lib.Hide
import Derived.Lib.SmallJoins
import Derived.Lib.ItoaMem
import Derived.Lib.AppendIntMem
import Derived.Lib.ItoaLen
namespace Go.Proofs.YtljjdkjmciheeaaDoor.P
open Go.RowKit Go.Lib

/-- What the walks ask of the library's variables. -/
structure LaidW (w : World) : Prop where
  m : ∃ m, w.cell? ⟨0, 0, none⟩ = some (.int .i64 m)
  sp : Lib.TabIs Tryd.prog w "strings.asciiSpace" .u8 Lib.asciiSpaceTab
  pw : Lib.TabIs Tryd.prog w "internal/strconv.uint64pow10" .u64 Lib.pow10Tab
theorem gSpace : Tryd.prog.globalNamed "strings.asciiSpace" = some 1 := by kernel_rfl
theorem gPow : Tryd.prog.globalNamed "internal/strconv.uint64pow10" = some 7 := by kernel_rfl
theorem LaidW.below {w w' : World} (h : LaidW w) (hb : Below w.heap.size w w') : LaidW w' := by
  obtain ⟨m, hm⟩ := h.m
  have h0 : 0 < w.heap.size := by
    unfold World.cell? at hm
    split at hm
    · rename_i he; exact (Array.getElem?_eq_some_iff.1 he).1
    · cases hm
  exact ⟨⟨m, (hb.cell (p := ⟨0, 0, none⟩) h0).trans hm⟩, Go.Joins.tab_stays gSpace h.sp hb (Nat.le_refl _), Go.Joins.tab_stays gPow h.pw hb (Nat.le_refl _)⟩

/-- strconv.Itoa. -/
def itoaB (n : Int) : ByteArray := ⟨(Lib.itoa n).toArray⟩
theorem itoa_any (n : Int) (h0 : -9223372036854775808 ≤ n) (h1 : n ≤ 9223372036854775807) (w : World) (hl : LaidW w) :
    Calls Tryd.prog 24 #[.int .i64 n] w fun e w' => e = .returned (.string (itoaB n)) ∧ Below w.heap.size w w' :=
  (Tryd.strconv_Itoa n h0 h1 w hl.pw).mono fun e w' ⟨he, k, os, hw⟩ => ⟨he, by rw [hw]; exact Lib.below_grow _ _ (Nat.le_refl _) k os⟩
theorem itoaB_size (n : Int) (h0 : -9223372036854775808 ≤ n) (h1 : n ≤ 9223372036854775807) : (itoaB n).size ≤ 21 := by
  have := Lib.itoa_length_le n h0 h1
  simpa [itoaB, ByteArray.size] using this

def wordsB : List ByteArray := [⟨#[104, 97, 108, 116]⟩, ⟨#[115, 101, 116]⟩, ⟨#[99, 111, 112, 121]⟩, ⟨#[97, 100, 100]⟩, ⟨#[115, 117, 98]⟩, ⟨#[109, 117, 108]⟩, ⟨#[100, 105, 118]⟩, ⟨#[108, 101, 115, 115]⟩, ⟨#[106, 117, 109, 112]⟩, ⟨#[105, 102]⟩, ⟨#[108, 111, 97, 100]⟩, ⟨#[115, 116, 111, 114, 101]⟩, ⟨#[109, 111, 118, 101]⟩, ⟨#[110, 97, 114, 114, 111, 119]⟩, ⟨#[100, 114, 111, 112]⟩, ⟨#[115, 101, 97, 108]⟩, ⟨#[111, 112, 101, 110]⟩, ⟨#[97, 115, 107]⟩, ⟨#[99, 97, 108, 108]⟩, ⟨#[98, 97, 99, 107]⟩, ⟨#[104, 101, 114, 101]⟩, ⟨#[99, 108, 101, 97, 114]⟩, ⟨#[116, 101, 108, 108]⟩]
def wordsText : ByteArray := ⟨#[104, 97, 108, 116, 32, 115, 101, 116, 32, 99, 111, 112, 121, 32, 97, 100, 100, 32, 115, 117, 98, 32, 109, 117, 108, 32, 100, 105, 118, 32, 108, 101, 115, 115, 32, 106, 117, 109, 112, 32, 105, 102, 32, 108, 111, 97, 100, 32, 115, 116, 111, 114, 101, 32, 109, 111, 118, 101, 32, 110, 97, 114, 114, 111, 119, 32, 100, 114, 111, 112, 32, 115, 101, 97, 108, 32, 111, 112, 101, 110, 32, 97, 115, 107, 32, 99, 97, 108, 108, 32, 98, 97, 99, 107, 32, 104, 101, 114, 101, 32, 99, 108, 101, 97, 114, 32, 116, 101, 108, 108]⟩
theorem fields_words : (Lib.fields wordsText.data.toList).map (fun l => (⟨l.toArray⟩ : ByteArray)) = wordsB := by decide +kernel
theorem words_ascii : ∀ (j : Nat) b, wordsText.data.toList[j]? = some b → b.toNat < 128 := by
  have h : ∀ b ∈ wordsText.data.toList, b.toNat < 128 := by decide +kernel
  exact fun j b hj => h b (List.mem_of_getElem? hj)
/-- The program's words, as Fields lays them. -/
theorem fields_any (w : World) (hl : LaidW w) :
    Calls Tryd.prog 54 #[.string wordsText] w fun e w' => e = .returned (.slice (some ⟨w.heap.size, 0, none⟩) 23 23) ∧ w' = w.alloc (.cells (wordsB.map Value.string).toArray 9) := by
  have h := Tryd.strings_Fields_laid wordsText w (by decide +kernel) words_ascii hl.sp
  have e1 : (Lib.fields wordsText.data.toList).length = 23 := by decide +kernel
  have e2 : (Lib.fields wordsText.data.toList).map (fun l => Value.string ⟨l.toArray⟩) = wordsB.map Value.string := by
    rw [← fields_words, List.map_map]; rfl
  rw [e1, e2] at h
  exact h
end Go.Proofs.YtljjdkjmciheeaaDoor.P
