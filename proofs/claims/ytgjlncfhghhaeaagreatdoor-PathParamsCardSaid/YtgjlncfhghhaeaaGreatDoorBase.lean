/- Small words that all walks of this seat share. -/
import Derived.Test.YtgjlncfhghhaeaaGreatDoorRows
import Derived.Test.YtgjlncfhghhaeaaGreatDoorSp
import Derived.WalkKit
import Derived.WalkSpells
import Derived.WalkLawsBesides
import Derived.Lib.ConvBytes
import Derived.Lib.Hide
import Derived.Laws.BytesArg
import Derived.Deep.QuietTactic
import Derived.BigQuiet
import Derived.Outline
import Derived.Deep.DeepFit
import Derived.Deep.DeepMust
import Derived.Shelf.Abstract
import Derived.Deep.LoopGhost
import Derived.Deep.Draws
namespace Go.Proofs.YtgjlncfhghhaeaaGreatDoor
open Go.RowKit
/-- What a call hands back, and that nothing which lay there has turned. -/
def Ret (v : Value) (w : World) (e : Ending) (w' : World) : Prop := e = .returned v ∧ Below w.heap.size w w'
/-- A list of bytes as a string. -/
def S (l : List UInt8) : ByteArray := ⟨l.toArray⟩
theorem S_toList (l : List UInt8) : (S l).data.toList = l := rfl
@[go_sem] theorem S_size (l : List UInt8) : (S l).size = l.length := by simp [S, ByteArray.size]
@[go_sem] theorem S_extract (l : List UInt8) (a b : Nat) : (S l).extract a b = S ((l.take b).drop a) := by
  apply ByteArray.ext
  apply Array.ext'
  simp [S, List.drop_take]
@[go_sem] theorem S_toListB (l : List UInt8) : (S l).toList = l := by rw [ByteArray.toList_eq]; rfl
@[go_sem] theorem S_get (l : List UInt8) (i : Nat) (h : i < (S l).size) : (S l)[i] = l[i]'(by rw [S_size] at h; exact h) := rfl
theorem ba_append (a b : ByteArray) : (a ++ b).data = a.data ++ b.data := by simp
@[go_sem] theorem S_append (a b : List UInt8) : S a ++ S b = S (a ++ b) := by apply ByteArray.ext; rw [ba_append]; simp [S]
@[go_sem] theorem mk_append_S (a b : List UInt8) : (ByteArray.mk a.toArray) ++ S b = S (a ++ b) := S_append a b
@[go_sem] theorem S_append_mk (a b : List UInt8) : S a ++ (ByteArray.mk b.toArray) = S (a ++ b) := S_append a b
theorem S_of (s : ByteArray) : S s.data.toList = s := rfl
theorem S_inj {a b : List UInt8} (h : S a = S b) : a = b := by have := congrArg (fun s => s.data.toList) h; exact this
theorem size_len (s : ByteArray) : s.data.toList.length = s.size := by simp
theorem bcell {W w1 : World} (hb : Below W.heap.size W w1) : (∀ b o, b < W.heap.size → w1.cell? ⟨b, o, none⟩ = W.cell? ⟨b, o, none⟩) ∧ (∀ b o, b < W.heap.size → w1.frozen? ⟨b, o, none⟩ = W.frozen? ⟨b, o, none⟩) :=
  ⟨fun b o h => hb.cell (p := ⟨b, o, none⟩) h, fun b o h => hb.frozen (p := ⟨b, o, none⟩) h⟩
theorem below_trans' {w a b : World} (h : Below w.heap.size w a) (k : Below a.heap.size a b) : Below w.heap.size w b := h.trans (k.mono h.size)
theorem below_drewN {B : Nat} {w a : World} (h : Below B w a) (n : Nat) : Below B w (a.drewN n) := ⟨h.os, h.tape, h.output, h.size, h.block⟩
theorem below_alloc {w a : World} (h : Below w.heap.size w a) (o : Obj) : Below w.heap.size w (a.alloc o) := h.alloc h.size o
theorem Ret.of {P : Program} {f : Nat} {args : Array Value} {v : Value} {w : World} (h : Calls P f args w fun e w' => e = .returned v ∧ w' = w) : Calls P f args w (Ret v w) :=
  h.mono fun _ _ ⟨he, hw⟩ => ⟨he, by subst hw; exact Below.refl _ _⟩
theorem Ret.of_drewN {P : Program} {f : Nat} {args : Array Value} {v : Value} {w : World} (h : Calls P f args w fun e w' => e = .returned v ∧ ∃ n, w' = w.drewN n) : Calls P f args w (Ret v w) :=
  h.mono fun _ _ ⟨he, n, hw⟩ => ⟨he, by subst hw; exact below_drewN (Below.refl _ _) n⟩
/-- '[]byte(s)': what it yields. -/
theorem conv_bytes {P : Program} (w : World) (src dst e : TypeId) (s : ByteArray) {u : TypeDesc}
    (hs : P.underlying src = some u) (hd : P.underlying dst = some (.slice e)) (he : P.underlying e = some (.int .u8)) :
    ∃ c W, (convert src dst (.string s)).run P w = .ok (.slice (some ⟨w.heap.size, 0, none⟩) s.size c) W ∧ Below w.heap.size w W ∧ W.heap.size = w.heap.size + 1 ∧
      (∀ j, j < s.size → W.cell? ⟨w.heap.size, j, none⟩ = some (.int .u8 (s.data.toList.getD j 0).toNat)) ∧ (∀ j, j < s.size → W.frozen? ⟨w.heap.size, j, none⟩ = false) := by
  refine ⟨_, _, Lib.run_convert_string_bytes w src dst e s hs hd he, ?_, Lib.bytesWorld_size w e s, fun j hj => Lib.bytesWorld_cell w e s j hj, ?_⟩
  · exact ⟨rfl, rfl, rfl, by rw [Lib.bytesWorld_size]; omega, fun k hk => Lib.bytesWorld_at_old w e s k hk⟩
  · intro j hj
    have hm := Lib.bytesWorld_at_new w e s
    have hl : s.size ≤ (Lib.bytesCells w e s).size := by
      have : s.data.size = s.size := rfl
      simp only [Lib.bytesCells, Array.size_append, Array.size_map, Array.size_replicate]; omega
    simp [World.frozen?, hm]
    omega
/-! ### A slice that holds a list -/
/-- The slice v reads as the list xs, each element as 'enc' lays it in one cell. -/
def Row {α : Type} (enc : α → Value) (w : World) (v : Value) (xs : List α) : Prop :=
  ∃ A c, v = .slice A xs.length c ∧ xs.length ≤ 140737488355328 ∧ (xs ≠ [] → ∃ b o, A = some ⟨b, o, none⟩ ∧ b < w.heap.size ∧ ∀ (j : Nat) x, xs[j]? = some x → w.cell? ⟨b, o + j, none⟩ = some (enc x))
theorem Row.below {α : Type} {enc : α → Value} {w w1 : World} {v : Value} {xs : List α} (h : Row enc w v xs) (hb : Below w.heap.size w w1) : Row enc w1 v xs := by
  obtain ⟨A, c, hv, hl, hx⟩ := h
  refine ⟨A, c, hv, hl, fun hne => ?_⟩
  obtain ⟨b, o, hA, hbl, hc⟩ := hx hne
  exact ⟨b, o, hA, Nat.lt_of_lt_of_le hbl hb.size, fun j x hj => ((bcell hb).1 b _ hbl).trans (hc j x hj)⟩
abbrev encB (c : UInt8) : Value := .int .u8 c.toNat
abbrev encS (s : List UInt8) : Value := .string (S s)
/-- What a function value hands back, at each element of xs, in every world in which nothing of w has turned. -/
def Gives {α : Type} (P : Program) (g : Nat) (lb : Array Value) (enc : α → Value) (p : α → Bool) (xs : List α) (w : World) : Prop :=
  ∀ (W : World) (x : α), x ∈ xs → Below w.heap.size w W → Calls P g (#[enc x] ++ lb) W (Ret (.bool (p x)) W)
theorem any_hit {α : Type} (p : α → Bool) (xs : List α) (k : Nat) (x : α) (hx : xs[k]? = some x) (hp : p x = true) : xs.any p = true :=
  List.any_eq_true.2 ⟨x, List.mem_of_getElem? hx, hp⟩
theorem any_miss {α : Type} (p : α → Bool) (xs : List α) (h : ∀ (j : Nat) x, xs[j]? = some x → p x = false) : xs.any p = false := by
  rw [List.any_eq_false]
  intro x hx
  obtain ⟨j, hj⟩ := List.getElem?_of_mem hx
  rw [h j x hj]; simp
end Go.Proofs.YtgjlncfhghhaeaaGreatDoor
