/- Maps with plain keys (strings, whole numbers, bools), told entry by entry: what a look-up gives and what a store leaves. No program in it. -/
import Derived.MapKept
import Derived.MapFrom
import Derived.Carry
import Derived.Below
import Derived.OwnWalk
import Derived.Lib.Hide
namespace Go.Proofs.YtljjdkjmciheeaaDoor.P
open Go.RowKit Go.MapKept

/-- Two plain keys are the same. -/
def keyEq : Value → Value → Bool
  | .string a, .string b => a == b
  | .int _ a, .int _ b => a == b
  | .bool a, .bool b => a == b
  | _, _ => false
def mget (k : Value) : List (Value × Value) → Option Value
  | [] => none
  | (k', v) :: r => if keyEq k k' then some v else mget k r
def mput (k v : Value) : List (Value × Value) → List (Value × Value)
  | [] => [(k, v)]
  | (k', v') :: r => if keyEq k k' then (k', v) :: r else (k', v') :: mput k v r
def entsFrom : Nat → List (Value × Value) → List MapEntry
  | _, [] => []
  | n, (k, v) :: r => { key := k, val := v, born := n } :: entsFrom (n + 1) r
def mapObj (l : List (Value × Value)) : Obj := .map (entsFrom 0 l).toArray l.length
def PlainKeys (d : TypeDesc) (l : List (Value × Value)) : Prop := ∀ x ∈ l, IsKey d x.1

theorem entsFrom_length : ∀ (l : List (Value × Value)) (n : Nat), (entsFrom n l).length = l.length
  | [], _ => rfl
  | _ :: r, n => by simp [entsFrom, entsFrom_length r (n + 1)]
theorem entsFrom_append : ∀ (l : List (Value × Value)) (n : Nat) (k v : Value), entsFrom n (l ++ [(k, v)]) = entsFrom n l ++ [{ key := k, val := v, born := n + l.length }]
  | [], n, k, v => by simp [entsFrom]
  | x :: r, n, k, v => by simp [entsFrom, entsFrom_append r (n + 1) k v]; omega

theorem keyEq_iff {d : TypeDesc} {a b : Value} (ha : IsKey d a) (hb : IsKey d b) : keyEq a b = true ↔ a = b := by
  cases d <;> cases a <;> cases b <;> simp_all [IsKey, keyEq, bytes_beq]
theorem sameNow_keyEq {d : TypeDesc} {a b : Value} (ha : IsKey d a) (hb : IsKey d b) : Instr.sameNow d a b = some (keyEq a b) := by
  cases d <;> cases a <;> cases b <;> simp_all [IsKey, Instr.sameNow, keyEq]

theorem find_none {d : TypeDesc} {k : Value} (hk : IsKey d k) : ∀ (l : List (Value × Value)) (n i : Nat), PlainKeys d l → mget k l = none →
    Instr.findNow d k (entsFrom n l) i = some none ∧ ∀ v, mput k v l = l ++ [(k, v)]
  | [], n, i, _, _ => ⟨rfl, fun _ => rfl⟩
  | (k', v') :: r, n, i, hp, h => by
    have hs := sameNow_keyEq hk (hp _ (.head _))
    cases hke : keyEq k k' with
    | true => simp [mget, hke] at h
    | false =>
      have h' : mget k r = none := by simpa [mget, hke] using h
      obtain ⟨h1, h2⟩ := find_none hk r (n + 1) (i + 1) (fun x hx => hp x (.tail _ hx)) h'
      refine ⟨?_, fun v => ?_⟩
      · simp only [entsFrom, Instr.findNow]
        simp only at hs
        rw [hs, hke]
        exact h1
      · simp [mput, hke, h2 v]
theorem find_some {d : TypeDesc} {k : Value} (hk : IsKey d k) : ∀ (l : List (Value × Value)) (n i : Nat) (u : Value), PlainKeys d l → mget k l = some u →
    ∃ j, Instr.findNow d k (entsFrom n l) i = some (some (i + j, u)) ∧ (entsFrom n l)[j]? = some { key := k, val := u, born := n + j } ∧
      ∀ v, entsFrom n (mput k v l) = (entsFrom n l).modify j fun e => { e with key := k, val := v }
  | [], n, i, u, _, h => by simp [mget] at h
  | (k', v') :: r, n, i, u, hp, h => by
    have hkk := hp _ (.head _)
    have hs := sameNow_keyEq hk hkk
    cases hke : keyEq k k' with
    | true =>
      have e : k = k' := (keyEq_iff hk hkk).1 hke
      have e2 : v' = u := by simpa [mget, hke] using h
      subst e2
      refine ⟨0, ?_, ?_, fun v => ?_⟩
      · simp only [entsFrom, Instr.findNow]
        simp only at hs
        rw [hs, hke]
        rfl
      · simp [entsFrom, e]
      · subst e; simp [mput, hke, entsFrom]
    | false =>
      have h' : mget k r = some u := by simpa [mget, hke] using h
      obtain ⟨j, h1, h2, h3⟩ := find_some hk r (n + 1) (i + 1) u (fun x hx => hp x (.tail _ hx)) h'
      refine ⟨j + 1, ?_, ?_, fun v => ?_⟩
      · simp only [entsFrom, Instr.findNow]
        simp only at hs
        rw [hs, hke]
        simp only [h1]
        congr 3; omega
      · simp only [entsFrom, List.getElem?_cons_succ, h2]
        congr 2; omega
      · simp [mput, hke, entsFrom, h3 v]

theorem mput_length {d : TypeDesc} {k : Value} (hk : IsKey d k) (v : Value) (l : List (Value × Value)) (hp : PlainKeys d l) {u : Value} (h : mget k l = some u) : (mput k v l).length = l.length := by
  obtain ⟨j, _, _, h3⟩ := find_some hk l 0 0 u hp h
  have := congrArg List.length (h3 v)
  rwa [List.length_modify, entsFrom_length, entsFrom_length] at this
theorem plain_put {d : TypeDesc} {k : Value} (hk : IsKey d k) (v : Value) : ∀ l : List (Value × Value), PlainKeys d l → PlainKeys d (mput k v l)
  | [], _ => fun x hx => by simp [mput] at hx; subst hx; exact hk
  | (k', v') :: r, hp => by
    have ih := plain_put hk v r (fun x hx => hp x (.tail _ hx))
    intro x hx
    unfold mput at hx
    split at hx
    · cases hx with
      | head => exact hp (k', v') (.head _)
      | tail _ hx => exact hp x (.tail _ hx)
    · cases hx with
      | head => exact hp (k', v') (.head _)
      | tail _ hx => exact ih x hx

/-- The world with another object in block b. -/
def _root_.Go.World.putObj (w : World) (b : Nat) (o : Obj) : World := { w with heap := w.heap.setIfInBounds b o }
theorem putObj_alloc (w : World) (o o' : Obj) : (w.alloc o).putObj w.heap.size o' = w.alloc o' := by
  simp only [World.putObj, World.alloc]
  congr 1
  apply Array.ext'
  simp [Array.setIfInBounds, Array.toList_push]
theorem putObj_size (w : World) (b : Nat) (o : Obj) : (w.putObj b o).heap.size = w.heap.size := by simp [World.putObj]
theorem putObj_heap (w : World) (b : Nat) (o : Obj) (h : b < w.heap.size) : (w.putObj b o).heap[b]? = some o := by simp [World.putObj, h]
theorem putObj_other (w : World) (b k : Nat) (o : Obj) (h : k ≠ b) : (w.putObj b o).heap[k]? = w.heap[k]? := by simp [World.putObj, Ne.symm h]
theorem below_putObj {B : Nat} {a w : World} (h : Below B a w) {b : Nat} (hb : B ≤ b) (o : Obj) : Below B a (w.putObj b o) :=
  h.trans ⟨rfl, rfl, rfl, by rw [putObj_size]; exact Nat.le_refl _, fun i hi => putObj_other w b i o (by omega)⟩

section
variable {P : Program} {w : World} {t kt et : TypeId} {d : TypeDesc} {b : Nat} {l : List (Value × Value)} {k : Value}

theorem run_lookup_mapObj (ht : P.underlying t = some (.map kt et)) (hd : P.underlying kt = some d) {z : Value} (hz : (zeroValue et).run P w = .ok z w) (hb : w.heap[b]? = some (mapObj l)) (hp : PlainKeys d l) (hk : IsKey d k) (c : Bool) :
    (Instr.lookup t (.map (some b)) k c).run P w = .ok (if c then .tuple #[(mget k l).getD z, .bool (mget k l).isSome] else (mget k l).getD z) w := by
  cases h : mget k l with
  | none =>
    obtain ⟨h1, _⟩ := find_none hk l 0 0 hp h
    simp [Instr.lookup, run_underlying ht, MapKept.run_getObj_map (show w.heap[b]? = some (.map _ _) from hb), MapKept.run_checkKey hd hk, MapKept.run_findKey hd h1, hz, Result.andThen]
  | some u =>
    obtain ⟨j, h1, _, _⟩ := find_some hk l 0 0 u hp h
    simp [Instr.lookup, run_underlying ht, MapKept.run_getObj_map (show w.heap[b]? = some (.map _ _) from hb), MapKept.run_checkKey hd hk, MapKept.run_findKey hd h1, Result.andThen]

theorem run_update_mapObj (ht : P.underlying t = some (.map kt et)) (hd : P.underlying kt = some d) (hb : w.heap[b]? = some (mapObj l)) (hp : PlainKeys d l) (hk : IsKey d k) (v : Value) :
    (Instr.mapUpdate t (.map (some b)) k v).run P w = .ok () (w.putObj b (mapObj (mput k v l))) := by
  have hb' : w.heap[b]? = some (.map (entsFrom 0 l).toArray l.length) := hb
  cases h : mget k l with
  | none =>
    obtain ⟨h1, h2⟩ := find_none hk l 0 0 hp h
    simp [Instr.mapUpdate, run_underlying ht, MapKept.run_getObj_map hb', MapKept.run_checkKey hd hk, MapKept.run_findKey hd h1, MapKept.run_setObj_map _ hb', Result.andThen, World.putObj, mapObj, h2 v, entsFrom_append]
  | some u =>
    obtain ⟨j, h1, h2, h3⟩ := find_some hk l 0 0 u hp h
    have hl := mput_length hk v l hp h
    have hm : (entsFrom 0 l).toArray.modify j (fun e => { e with key := k, val := v }) = (entsFrom 0 (mput k v l)).toArray := by
      rw [h3 v]; simp
    simp [Instr.mapUpdate, run_underlying ht, MapKept.run_getObj_map hb', MapKept.run_checkKey hd hk, MapKept.run_findKey hd h1, h2, MapKept.run_keyThatStays hk, MapKept.run_setObj_map _ hb', Result.andThen, World.putObj, mapObj, hl, h3 v]
end
end Go.Proofs.YtljjdkjmciheeaaDoor.P
