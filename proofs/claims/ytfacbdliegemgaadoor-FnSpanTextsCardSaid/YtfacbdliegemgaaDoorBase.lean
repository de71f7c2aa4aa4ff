/- What slices read as, over any program: nothing is claimed of a Go function here. -/
import Derived.Test.YtfacbdliegemgaaDoorRows
import Derived.WalkKit
import Derived.ProofKit
import Derived.OpenShut
import Derived.ShutString
import Derived.ChangeOld
import Derived.Below
import Derived.Laws.OwnMore
import Derived.Deep.Draws
import Derived.Laws.MakeOwn
import Derived.Laws.Entries
import Derived.BigQuiet
import Derived.Deep.QuietTactic
namespace Go.Proofs.YtfacbdliegemgaaDoor
open Go.RowKit

/-- A slice value that reads as n elements of 'size' cells each, the cells xs. -/
structure Reads (w : World) (size : Nat) (A : Option Addr) (n c : Nat) (xs : List Value) : Prop where
  le : n ≤ c
  cap : c ≤ maxLen
  len : xs.length = n * size
  at_ : 0 < n → ∃ b off, A = some ⟨b, off, none⟩ ∧ b < w.heap.size ∧ ∀ j u, xs[j]? = some u → w.cell? ⟨b, off + j, none⟩ = some u

/-- A skipped operation's slot holds nothing: a guard that asks it says no. -/
theorem yield_undef (f : Bool → Option Bool) (g : Option Value → Option Bool) : Go.yielded.match_1 (fun _ => Option Bool) (some undef) f g = g (some undef) := rfl
attribute [go_sem] yield_undef

theorem cell_keep {w w' : World} {a : Addr} {v : Value} (hb : Below w.heap.size w w') (h : w.cell? a = some v) : w'.cell? a = some v :=
  (hb.cell (World.block_lt_of_cell? w _ h)).trans h

theorem cell_alloc {w : World} {a : Addr} {v : Value} {o : Obj} (h : w.cell? a = some v) : (w.alloc o).cell? a = some v := cell_keep ((Below.refl _ _).alloc (Nat.le_refl _) o) h
theorem next {w w1 w2 : World} (h : Below w.heap.size w w1) (hb : Below w1.heap.size w1 w2) : Below w.heap.size w w2 :=
  h.trans (hb.mono h.size)

/-! ### A region that draws its order, whose operations read and whose callees give a value and leave all that was there as it was: one walk in the order of the text -/
def After (w : World) : Type := { w' : World // Below w.heap.size w w' }
instance (w : World) : Nonempty (After w) := ⟨⟨w, Below.refl _ _⟩⟩
def after {w : World} (x : After w) : World := x.1
theorem after_below {w : World} (x : After w) : Below w.heap.size w (after x) := x.2
theorem after_cell {w : World} (x : After w) (b o : Nat) (sp : Option Nat) (h : b < w.heap.size) : (after x).cell? ⟨b, o, sp⟩ = w.cell? ⟨b, o, sp⟩ :=
  (after_below x).cell (p := ⟨b, o, sp⟩) h
attribute [go_sem] after_cell
theorem later_below {w w' : World} (h : ∃ x : After w, w' = after x) : Below w.heap.size w w' := by
  obtain ⟨x, rfl⟩ := h
  exact after_below x
theorem wp_region_later {P : Program} {id : Nat} {Q : Exit → Act → World → Prop} {a : Act} {w : World} {l : List Oper} (hm : P.follows .mixedOrders = true) (hB : Region.lexB .any l.toArray = true)
    (h : wpQuiet P l.toArray (fun w' => ∃ x : After w, w' = after x) (fun a' => ∀ w', (∃ x : After w, w' = after x) → Q .normal a' w') l a) : (Code.region id l.toArray true).wp P Q a w :=
  wp_region_quiet (C := fun w' => ∃ x : After w, w' = after x) hm hB ⟨⟨w.drew, (Below.refl _ _).drew⟩, rfl⟩ (by simpa using h)
theorem Calls.later {P : Program} {f : FuncId} {args : Array Value} {w : World} {x : After w} {v : Value}
    (h : Calls P f args (after x) fun e w' => e = .returned v ∧ Below (after x).heap.size (after x) w') : Calls P f args (after x) fun e w'' => e = .returned v ∧ ∃ y : After w, w'' = after y :=
  h.mono fun _ w1 ⟨he, hb⟩ => ⟨he, ⟨w1, next (after_below x) hb⟩, rfl⟩

theorem Reads.below {w w' : World} {size : Nat} {A : Option Addr} {n c : Nat} {xs : List Value} (h : Reads w size A n c xs) (hb : Below w.heap.size w w') : Reads w' size A n c xs :=
  ⟨h.le, h.cap, h.len, fun hn => by
    obtain ⟨b, off, e, hlt, hc⟩ := h.at_ hn
    exact ⟨b, off, e, Nat.lt_of_lt_of_le hlt hb.size, fun j u hu => (hb.cell (p := ⟨b, off + j, none⟩) hlt).trans (hc j u hu)⟩⟩

theorem Reads.of_own {w : World} {base : Nat} {e : TypeId} {size n c : Nat} {A : Option Addr} {xs : List Value} (h : w.ownsRow base e size (.slice A n c) n xs) : Reads w size A n c xs := by
  have h1 := h.1
  rcases h.2 with ⟨hv, rfl⟩ | ⟨g, cap, cur, hv, hb, hg, hnc, hcm, hcs, ht⟩
  · injection hv with h2 h3 h4
    subst h4
    exact ⟨Nat.le_refl _, Nat.zero_le _, h1, fun hn => absurd hn (by omega)⟩
  · injection hv with h2 h3 h4
    subst h2; subst h4
    refine ⟨hnc, hcm, h1, fun hn => ⟨g, 0, rfl, (h.lt g rfl).2, fun j u hu => ?_⟩⟩
    have := h.cells (g := g) rfl j u hu
    rw [Nat.zero_add]
    have e : (⟨g, 0, none⟩ : Addr).add j = ⟨g, j, none⟩ := by
      unfold Addr.add
      split
      · rename_i h0; rw [h0]
      · simp
    rw [e] at this
    exact this

/-! ### lists of spans: 2 cells each -/
def spanCells (xs : List (Int × Int)) : List Value := xs.flatMap fun s => [.int .i64 s.1, .int .i64 s.2]
theorem spanCells_len (xs : List (Int × Int)) : (spanCells xs).length = xs.length * 2 := by
  induction xs with
  | nil => rfl
  | cons x r ih => simp [spanCells] at ih ⊢; omega
theorem spanCells_at (xs : List (Int × Int)) (i : Nat) (h : i < xs.length) :
    (spanCells xs)[i * 2]? = some (.int .i64 (xs.getD i (0, 0)).1) ∧ (spanCells xs)[i * 2 + 1]? = some (.int .i64 (xs.getD i (0, 0)).2) := by
  induction xs generalizing i with
  | nil => simp at h
  | cons x r ih =>
    cases i with
    | zero => simp [spanCells]
    | succ i =>
      have := ih i (by simpa using h)
      simp only [spanCells, List.flatMap_cons] at this ⊢
      rw [show (i + 1) * 2 = i * 2 + 2 from by omega, show i * 2 + 2 + 1 = i * 2 + 1 + 2 from by omega]
      simpa [List.getElem?_append] using this

def Spans (w : World) (A : Option Addr) (n c : Nat) (xs : List (Int × Int)) : Prop := n = xs.length ∧ Reads w 2 A n c (spanCells xs)
theorem Spans.below {w w' : World} {A : Option Addr} {n c : Nat} {xs : List (Int × Int)} (h : Spans w A n c xs) (hb : Below w.heap.size w w') : Spans w' A n c xs := ⟨h.1, h.2.below hb⟩
theorem Spans.at_ {w : World} {A : Option Addr} {n c : Nat} {xs : List (Int × Int)} (h : Spans w A n c xs) (k : Nat) (hk : k < n) :
    ∃ b off, A = some ⟨b, off, none⟩ ∧ b < w.heap.size ∧ ∀ i, i < n → w.cell? ⟨b, off + i * 2, none⟩ = some (.int .i64 (xs.getD i (0, 0)).1) ∧ w.cell? ⟨b, off + i * 2 + 1, none⟩ = some (.int .i64 (xs.getD i (0, 0)).2) := by
  obtain ⟨b, off, e, hlt, hc⟩ := h.2.at_ (by omega)
  refine ⟨b, off, e, hlt, fun i hi => ?_⟩
  obtain ⟨h1, h2⟩ := spanCells_at xs i (h.1 ▸ hi)
  exact ⟨hc _ _ h1, by rw [Nat.add_assoc]; exact hc _ _ h2⟩
/-- element i: its two numbers, and where they lie in a later world -/
theorem Spans.el {w wr : World} {b off n c : Nat} {xs : List (Int × Int)} (h : Spans w (some ⟨b, off, none⟩) n c xs) {B : Nat} (hb : Below B w wr) (hbl : b < B) (k : Nat) (hk : k < n) :
    ∃ f t, Hid (xs.getD k (0, 0) = (f, t)) ∧ wr.cell? ⟨b, off + k * 2, none⟩ = some (.int .i64 f) ∧ wr.cell? ⟨b, off + k * 2 + 1, none⟩ = some (.int .i64 t) := by
  obtain ⟨b', off', e, _, hc⟩ := h.at_ k hk
  injection e with e; injection e with e1 e2
  subst e1; subst e2
  obtain ⟨h1, h2⟩ := hc k hk
  exact ⟨_, _, rfl, (hb.cell (p := ⟨b, off + k * 2, none⟩) hbl).trans h1, (hb.cell (p := ⟨b, off + k * 2 + 1, none⟩) hbl).trans h2⟩

theorem own_below {w w' : World} {base : Nat} {e : TypeId} {size : Nat} {v : Value} {n : Nat} {xs : List Value} (h : w.ownsRow base e size v n xs) (hb : Below w.heap.size w w') : w'.ownsRow base e size v n xs :=
  h.kept (row := none) ⟨hb.os, hb.tape, hb.output, hb.size, fun k hk _ => hb.block k hk⟩ (by cases hv : v.ownBlock <;> simp)

theorem take_set2 {α : Type} (ys zs : List α) (j : Nat) (a b : α) (h : ys.take j = zs.take j) (hl : ys.length = zs.length) (ha : zs[j]? = some a) (hb : zs[j + 1]? = some b) : ((ys.set j a).set (j + 1) b).take (j + 2) = zs.take (j + 2) := by
  apply List.ext_getElem?
  intro i
  have hj : j < zs.length := by have := (List.getElem?_eq_some_iff.1 ha).1; omega
  have hj1 : j + 1 < zs.length := by have := (List.getElem?_eq_some_iff.1 hb).1; omega
  by_cases hi : i < j + 2
  · rw [List.getElem?_take_of_lt hi, List.getElem?_take_of_lt hi]
    by_cases e1 : i = j + 1
    · subst e1; rw [List.getElem?_set_self (by simp; omega), hb]
    · rw [List.getElem?_set_ne (by omega)]
      by_cases e2 : i = j
      · subst e2; rw [List.getElem?_set_self (by omega), ha]
      · rw [List.getElem?_set_ne (by omega)]
        have := congrArg (fun l => l[i]?) h
        simp only [List.getElem?_take_of_lt (show i < j by omega)] at this
        exact this
  · rw [List.getElem?_take_eq_none (by omega), List.getElem?_take_eq_none (by omega)]
theorem take_set1 {α : Type} (ys zs : List α) (j : Nat) (a : α) (h : ys.take j = zs.take j) (hl : ys.length = zs.length) (ha : zs[j]? = some a) : (ys.set j a).take (j + 1) = zs.take (j + 1) := by
  apply List.ext_getElem?
  intro i
  have hj : j < zs.length := by have := (List.getElem?_eq_some_iff.1 ha).1; omega
  by_cases hi : i < j + 1
  · rw [List.getElem?_take_of_lt hi, List.getElem?_take_of_lt hi]
    by_cases e2 : i = j
    · subst e2; rw [List.getElem?_set_self (by omega), ha]
    · rw [List.getElem?_set_ne (by omega)]
      have := congrArg (fun l => l[i]?) h
      simp only [List.getElem?_take_of_lt (show i < j by omega)] at this
      exact this
  · rw [List.getElem?_take_eq_none (by omega), List.getElem?_take_eq_none (by omega)]

/-- a contract's Bool, known -/
theorem isb {P : Program} {f : FuncId} {args : Array Value} {w : World} {p q : Bool} (h : Calls P f args w fun e w' => e = .returned (.bool p) ∧ Below w.heap.size w w') (e : p = q) :
    Calls P f args w fun e w' => e = .returned (.bool q) ∧ Below w.heap.size w w' := e ▸ h
theorem two_boxes (w : World) (x y : Obj) : Below w.heap.size w ((w.alloc x).alloc y) := ((Below.refl _ _).alloc (Nat.le_refl _) _).alloc (by simp) _
theorem three_boxes (w : World) (x y z : Obj) : Below w.heap.size w (((w.alloc x).alloc y).alloc z) := (two_boxes _ _ _).alloc (by simp; omega) _
theorem bcell {W w1 : World} (hb : Below W.heap.size W w1) : ∀ b o, b < W.heap.size → w1.cell? ⟨b, o, none⟩ = W.cell? ⟨b, o, none⟩ := fun b o h => hb.cell (p := ⟨b, o, none⟩) h
theorem bfree {W w1 : World} (hb : Below W.heap.size W w1) : ∀ b o, b < W.heap.size → w1.frozen? ⟨b, o, none⟩ = W.frozen? ⟨b, o, none⟩ := fun b o h => hb.frozen (p := ⟨b, o, none⟩) h

theorem run_make_rowN {P : Program} (t e : TypeId) (i : TypeInfo) (z : Value) (ht : P.underlying t = some (.slice e)) (hi : P.info? e = some i) (hz : i.zero = some z)
    (kl kc : IntKind) (n c : Nat) (hnc : n ≤ c) (hbytes : i.bytes * c ≤ 281474976710656) (h63 : c ≤ 9223372036854775807) (w : World) :
    (Instr.makeSlice t (.int kl (n : Int)) (.int kc (c : Int))).run P w = .ok (.slice (some ⟨w.heap.size, 0, none⟩) n c) (w.alloc (.cells (madeCells z.cells (c * i.size)) e)) := by
  have hb : (i.bytes : Int) * (c : Int) ≤ 281474976710656 := by
    have h : ((i.bytes * c : Nat) : Int) ≤ 281474976710656 := by omega
    rwa [Int.natCast_mul] at h
  have hr := run_make (P := P) w t e i z ht hi hz kl kc n c (by omega) (by omega) hb (by omega)
  simp only [Int.toNat_natCast] at hr
  exact hr
end Go.Proofs.YtfacbdliegemgaaDoor
