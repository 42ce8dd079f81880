/- How an argument's reading opens into the printer's kinds: structs, slices of structs, numbers, texts. -/
import Derived.Test.YtljjdkjmciheeaaWArr
import Derived.ProofKit
import Derived.OpenShut
import Derived.ShutString
import Derived.ChangeOld
import Derived.SizedLaws
import Derived.Deep.Slices
namespace Go.Proofs.Ytljjdkjmciheeaa.Rd
open Go.RowKit Go.Deep Go.Proofs.YtljjdkjmciheeaaW.PrintWords
set_option linter.unusedVariables false

/-- Whatever reads as data of type t reads by kind d. -/
def Reads {α : Type} (P : Program) (t : TypeId) (d : Kd α) : Prop :=
  ∀ {H : Type} {enc : TypeId × Value → H} {w : World} {base : Nat} {spare : Nat → Bool} {held : Bool} {fuel : Nat} {cs : List Value} {x : DataW H × List MemPlace},
    DataW.trod enc P w base spare held fuel t cs = some x → ∃ a, d.K w a cs

theorem reads_int {P : Program} {t : TypeId} {k : IntKind} (ht : P.underlying t = some (.int k)) : Reads P t (Kd.int k) := fun h => by
  obtain ⟨n, rfl, _, _⟩ := DataW.trod_int ht h
  exact ⟨n, rfl⟩
theorem reads_string {P : Program} {t : TypeId} (ht : P.underlying t = some .string) : Reads P t Kd.string := fun h => by
  obtain ⟨s, rfl, _, _⟩ := DataW.trod_string ht h
  exact ⟨s, rfl⟩
theorem reads_bool {P : Program} {t : TypeId} (ht : P.underlying t = some .bool) : Reads P t Kd.bool := fun h => by
  obtain ⟨b, rfl, _⟩ := DataW.trod_bool ht h
  exact ⟨b, rfl⟩

theorem reads_slice {α : Type} {P : Program} {t e : TypeId} {d : Kd α} (ht : P.underlying t = some (.slice e)) (hc : P.cellsOf e = d.sz) (hd : Reads P e d) : Reads P t (Kd.slice e d) := fun {H enc w base spare held fuel cs x} h => by
  rcases open_slice ht h with ⟨rfl, _⟩ | ⟨a, len, cap, m, n, D, Pl, rfl, _, hl, hm, hmm, _, hel⟩
  · exact ⟨[], none, 0, rfl, Nat.le_refl _, rfl, Nat.zero_le _, fun h => absurd h (by simp)⟩
  · have hlm : len ≤ m := by rw [hmm]; split <;> omega
    have hx : ∀ i : Fin len, ∃ (p : α) (cs' : List Value), cs'.length = d.sz ∧ d.K w p cs' ∧ ∀ j u, cs'[j]? = some u → w.cell? (a.add (i.val * d.sz + j)) = some u := fun i => by
      obtain ⟨cs', h1, h2⟩ := hel i.val (by have := i.isLt; omega)
      obtain ⟨p, hp⟩ := hd h2
      obtain ⟨_, hlen, hcell⟩ := World.cells?_some h1
      refine ⟨p, cs', by rw [hlen, hc], hp, fun j u hj => ?_⟩
      have hj' : j < cs'.length := (List.getElem?_eq_some_iff.1 hj).1
      have := hcell j (by rw [hlen] at hj'; exact hj')
      rw [Go.Deep.add_add, hc] at this
      rw [this, hj]
    refine ⟨List.ofFn fun i => Classical.choose (hx i), some a, cap, by rw [List.length_ofFn], by rw [List.length_ofFn]; exact hl, by rw [List.length_ofFn], by rw [List.length_ofFn]; unfold maxLen at hm; omega, fun _ => ⟨a, rfl, fun j p hj => ?_⟩⟩
    have hjl : j < len := by have := (List.getElem?_eq_some_iff.1 hj).1; rwa [List.length_ofFn] at this
    rw [List.getElem?_ofFn, dif_pos hjl] at hj
    obtain ⟨cs', h1, h2, h3⟩ := Classical.choose_spec (hx ⟨j, hjl⟩)
    exact ⟨cs', h1, by rw [← Option.some.inj hj]; exact h2, h3⟩

/-- The fields of a struct from place off on. -/
def ReadsAt {α : Type} (P : Program) (fs : List Field) (off : Nat) (d : Kd α) : Prop :=
  ∀ {H : Type} {enc : TypeId × Value → H} {w : World} {base : Nat} {spare : Nat → Bool} {held : Bool} {n : Nat} {cs : List Value},
    (∀ f ∈ fs, ∃ y, DataW.trod enc P w base spare held n f.type ((cs.drop f.offset).take (P.cellsOf f.type)) = some y) → cs.length = off + d.sz → ∃ a, d.K w a (cs.drop off)
theorem readsAt_one {α : Type} {P : Program} {f : Field} {off : Nat} {d : Kd α} (ho : f.offset = off) (hc : P.cellsOf f.type = d.sz) (hd : Reads P f.type d) : ReadsAt P [f] off d := fun {H enc w base spare held n cs} h hl => by
  obtain ⟨y, hy⟩ := h f (by simp)
  rw [ho, hc, List.take_of_length_le (by simp; omega)] at hy
  exact hd hy
theorem readsAt_cons {α β : Type} {P : Program} {f : Field} {fs : List Field} {off : Nat} {d : Kd α} {d2 : Kd β} (ho : f.offset = off) (hc : P.cellsOf f.type = d.sz) (hd : Reads P f.type d) (hr : ReadsAt P fs (off + d.sz) d2) : ReadsAt P (f :: fs) off (Kd.pair d d2) := fun {H enc w base spare held n cs} h hl => by
  obtain ⟨y, hy⟩ := h f (by simp)
  rw [ho, hc] at hy
  obtain ⟨a, ha⟩ := hd hy
  have hl' : cs.length = off + (d.sz + d2.sz) := hl
  obtain ⟨b, hb⟩ := hr (fun g hg => h g (List.mem_cons_of_mem _ hg)) (by omega)
  exact ⟨(a, b), (cs.drop off).take d.sz, cs.drop (off + d.sz), by rw [← List.drop_drop, List.take_append_drop], ha, hb⟩
theorem reads_struct {α : Type} {P : Program} {t : TypeId} {fs : Array Field} {d : Kd α} (ht : P.underlying t = some (.struct fs)) (hc : P.cellsOf t = d.sz) (hr : ReadsAt P fs.toList 0 d) : Reads P t d := fun {H enc w base spare held fuel cs x} h => by
  obtain ⟨xs, n, _, _, hl, hxl, hf⟩ := DataW.trod_struct ht h
  obtain ⟨a, ha⟩ := hr (n := n) (cs := cs) (enc := enc) (w := w) (base := base) (spare := spare) (held := held) (fun f hfm => by
    obtain ⟨i, hi, hfi⟩ := List.getElem_of_mem hfm
    have hi' : i < fs.size := by simpa using hi
    have h2 := hf i f (by rw [Array.getElem?_eq_getElem hi']; rw [← hfi]; simp)
    rw [h2]
    exact ⟨xs[i]'(by rw [hxl]; exact hi'), List.getElem?_eq_getElem _⟩) (by rw [hl, hc]; omega)
  exact ⟨a, by rwa [List.drop_zero] at ha⟩
theorem reads_iso {α β : Type} {P : Program} {t : TypeId} {d : Kd α} {f : β → α} (g : α → β) (hg : ∀ a, f (g a) = a) (h : Reads P t d) : Reads P t (Kd.iso d f) := fun hx => by
  obtain ⟨a, ha⟩ := h hx
  exact ⟨g a, by show d.K _ (f (g a)) _; rw [hg]; exact ha⟩
/-- A value of several cells. -/
theorem agg_of_cells {v : Value} {l : List Value} (h : v.cells.toList = l) (hl : l.length ≠ 1) : v = .agg l.toArray := by
  cases v
  case agg cs => subst h; rfl
  all_goals (simp only [Value.cells] at h; subst h; simp at hl)

end Go.Proofs.Ytljjdkjmciheeaa.Rd
