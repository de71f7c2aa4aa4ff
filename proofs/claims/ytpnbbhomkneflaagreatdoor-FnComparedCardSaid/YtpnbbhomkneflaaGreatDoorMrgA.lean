/- Parts of the proof in one text: Base, Open, Door, Shelf, Words, Dist, SplitLaw, Shelf2, Split, Marks, Join, Ints, Frame, Zone, Mix, Draw, Grown, DrawA, DrawC, Repl, DrawP, DrawG. -/
import Derived.Test.YtpnbbhomkneflaaGreatDoorRows
import Derived.WalkKit
import Derived.ProofKit
import Derived.OpenShut
import Derived.ShutString
import Derived.ChangeOld
import Derived.Below
import Derived.Laws.OwnMore
import Derived.Deep.Draws
import Derived.Laws.MakeOwn
import Derived.Laws.Entries
import Derived.BigQuiet
import Derived.Deep.QuietTactic
import Derived.Deep.Slices
import Derived.Deep.Fields
import Derived.ChangeSame
import Derived.Lib.SmallJoins
import Derived.Test.YtpnbbhomkneflaaGreatDoorCards
import Derived.Test.YtpnbbhomkneflaaGreatDoorTie
import Derived.Deep.DeepHandedRow
import Derived.Lib.LaidTab
import Derived.Shelf.Strings.SlTrimAscii
import Derived.Shelf.Strings.Trim
import Derived.Shelf.Small.Utf8
import Derived.Shelf.Small.Strs
import Derived.Shelf.Strings.Search1
import Derived.Shelf.Strings.Search2
import Derived.Shelf.Strings.Search3
import Derived.Shelf.Strings.Count
import Derived.Shelf.LaysM
import Derived.Shelf.Strings.Shaped
import Derived.Shelf.Strings.Split
import Derived.Shelf.Strings.SplitShaped
import Derived.Shelf.Strings.Runes
import Derived.Shelf.Strings.AsciiSet
import Derived.Shelf.Unicode.DecodeSlow
import Derived.Test.YtpnbbhomkneflaaGreatDoorProg
import Derived.Lib.Hide
import Derived.WalkLawsBesides
import Derived.WalkSpells
import Derived.StillTailTactics
import Derived.Deep.AppendLies
import Derived.Lib.Split
import Derived.Lib.SplitLaws
import Derived.Lib.Join
import Derived.StillTail
import Derived.IntWalk
import Derived.Deep.RegionWith
import Derived.Maps.AppendAt
import Derived.Deep.RegionLaw
namespace Go.Proofs.YtpnbbhomkneflaaGreatDoor
open Go.RowKit

/-- A slice value that reads as n elements of 'size' cells each, the cells xs. -/
structure Reads (w : World) (size : Nat) (A : Option Addr) (n c : Nat) (xs : List Value) : Prop where
  le : n ≤ c
  cap : c ≤ maxLen
  len : xs.length = n * size
  at_ : 0 < n → ∃ b off, A = some ⟨b, off, none⟩ ∧ b < w.heap.size ∧ ∀ j u, xs[j]? = some u → w.cell? ⟨b, off + j, none⟩ = some u

/-- A skipped operation's slot holds nothing: a guard that asks it says no. -/
theorem yield_undef (f : Bool → Option Bool) (g : Option Value → Option Bool) : Go.yielded.match_1 (fun _ => Option Bool) (some undef) f g = g (some undef) := rfl
attribute [go_sem] yield_undef

theorem cell_keep {w w' : World} {a : Addr} {v : Value} (hb : Below w.heap.size w w') (h : w.cell? a = some v) : w'.cell? a = some v :=
  (hb.cell (World.block_lt_of_cell? w _ h)).trans h

theorem cell_alloc {w : World} {a : Addr} {v : Value} {o : Obj} (h : w.cell? a = some v) : (w.alloc o).cell? a = some v := cell_keep ((Below.refl _ _).alloc (Nat.le_refl _) o) h
theorem next {w w1 w2 : World} (h : Below w.heap.size w w1) (hb : Below w1.heap.size w1 w2) : Below w.heap.size w w2 :=
  h.trans (hb.mono h.size)

/-! ### A region that draws its order, whose operations read and whose callees give a value and leave all that was there as it was: one walk in the order of the text -/
def After (w : World) : Type := { w' : World // Below w.heap.size w w' }
instance (w : World) : Nonempty (After w) := ⟨⟨w, Below.refl _ _⟩⟩
def after {w : World} (x : After w) : World := x.1
theorem after_below {w : World} (x : After w) : Below w.heap.size w (after x) := x.2
theorem after_cell {w : World} (x : After w) (b o : Nat) (sp : Option Nat) (h : b < w.heap.size) : (after x).cell? ⟨b, o, sp⟩ = w.cell? ⟨b, o, sp⟩ :=
  (after_below x).cell (p := ⟨b, o, sp⟩) h
attribute [go_sem] after_cell
theorem later_below {w w' : World} (h : ∃ x : After w, w' = after x) : Below w.heap.size w w' := by
  obtain ⟨x, rfl⟩ := h
  exact after_below x
theorem wp_region_later {P : Program} {id : Nat} {Q : Exit → Act → World → Prop} {a : Act} {w : World} {l : List Oper} (hm : P.follows .mixedOrders = true) (hB : Region.lexB .any l.toArray = true)
    (h : wpQuiet P l.toArray (fun w' => ∃ x : After w, w' = after x) (fun a' => ∀ w', (∃ x : After w, w' = after x) → Q .normal a' w') l a) : (Code.region id l.toArray true).wp P Q a w :=
  wp_region_quiet (C := fun w' => ∃ x : After w, w' = after x) hm hB ⟨⟨w.drew, (Below.refl _ _).drew⟩, rfl⟩ (by simpa using h)
theorem Calls.later {P : Program} {f : FuncId} {args : Array Value} {w : World} {x : After w} {v : Value}
    (h : Calls P f args (after x) fun e w' => e = .returned v ∧ Below (after x).heap.size (after x) w') : Calls P f args (after x) fun e w'' => e = .returned v ∧ ∃ y : After w, w'' = after y :=
  h.mono fun _ w1 ⟨he, hb⟩ => ⟨he, ⟨w1, next (after_below x) hb⟩, rfl⟩

theorem Reads.below {w w' : World} {size : Nat} {A : Option Addr} {n c : Nat} {xs : List Value} (h : Reads w size A n c xs) (hb : Below w.heap.size w w') : Reads w' size A n c xs :=
  ⟨h.le, h.cap, h.len, fun hn => by
    obtain ⟨b, off, e, hlt, hc⟩ := h.at_ hn
    exact ⟨b, off, e, Nat.lt_of_lt_of_le hlt hb.size, fun j u hu => (hb.cell (p := ⟨b, off + j, none⟩) hlt).trans (hc j u hu)⟩⟩

theorem Reads.of_own {w : World} {base : Nat} {e : TypeId} {size n c : Nat} {A : Option Addr} {xs : List Value} (h : w.ownsRow base e size (.slice A n c) n xs) : Reads w size A n c xs := by
  have h1 := h.1
  rcases h.2 with ⟨hv, rfl⟩ | ⟨g, cap, cur, hv, hb, hg, hnc, hcm, hcs, ht⟩
  · injection hv with h2 h3 h4
    subst h4
    exact ⟨Nat.le_refl _, Nat.zero_le _, h1, fun hn => absurd hn (by omega)⟩
  · injection hv with h2 h3 h4
    subst h2; subst h4
    refine ⟨hnc, hcm, h1, fun hn => ⟨g, 0, rfl, (h.lt g rfl).2, fun j u hu => ?_⟩⟩
    have := h.cells (g := g) rfl j u hu
    rw [Nat.zero_add]
    have e : (⟨g, 0, none⟩ : Addr).add j = ⟨g, j, none⟩ := by
      unfold Addr.add
      split
      · rename_i h0; rw [h0]
      · simp
    rw [e] at this
    exact this

/-! ### lists of spans: 2 cells each -/
def spanCells (xs : List (Int × Int)) : List Value := xs.flatMap fun s => [.int .i64 s.1, .int .i64 s.2]
theorem spanCells_len (xs : List (Int × Int)) : (spanCells xs).length = xs.length * 2 := by
  induction xs with
  | nil => rfl
  | cons x r ih => simp [spanCells] at ih ⊢; omega
theorem spanCells_at (xs : List (Int × Int)) (i : Nat) (h : i < xs.length) :
    (spanCells xs)[i * 2]? = some (.int .i64 (xs.getD i (0, 0)).1) ∧ (spanCells xs)[i * 2 + 1]? = some (.int .i64 (xs.getD i (0, 0)).2) := by
  induction xs generalizing i with
  | nil => simp at h
  | cons x r ih =>
    cases i with
    | zero => simp [spanCells]
    | succ i =>
      have := ih i (by simpa using h)
      simp only [spanCells, List.flatMap_cons] at this ⊢
      rw [show (i + 1) * 2 = i * 2 + 2 from by omega, show i * 2 + 2 + 1 = i * 2 + 1 + 2 from by omega]
      simpa [List.getElem?_append] using this

def Spans (w : World) (A : Option Addr) (n c : Nat) (xs : List (Int × Int)) : Prop := n = xs.length ∧ Reads w 2 A n c (spanCells xs)
theorem Spans.below {w w' : World} {A : Option Addr} {n c : Nat} {xs : List (Int × Int)} (h : Spans w A n c xs) (hb : Below w.heap.size w w') : Spans w' A n c xs := ⟨h.1, h.2.below hb⟩
theorem Spans.at_ {w : World} {A : Option Addr} {n c : Nat} {xs : List (Int × Int)} (h : Spans w A n c xs) (k : Nat) (hk : k < n) :
    ∃ b off, A = some ⟨b, off, none⟩ ∧ b < w.heap.size ∧ ∀ i, i < n → w.cell? ⟨b, off + i * 2, none⟩ = some (.int .i64 (xs.getD i (0, 0)).1) ∧ w.cell? ⟨b, off + i * 2 + 1, none⟩ = some (.int .i64 (xs.getD i (0, 0)).2) := by
  obtain ⟨b, off, e, hlt, hc⟩ := h.2.at_ (by omega)
  refine ⟨b, off, e, hlt, fun i hi => ?_⟩
  obtain ⟨h1, h2⟩ := spanCells_at xs i (h.1 ▸ hi)
  exact ⟨hc _ _ h1, by rw [Nat.add_assoc]; exact hc _ _ h2⟩
/-- element i: its two numbers, and where they lie in a later world -/
theorem Spans.el {w wr : World} {b off n c : Nat} {xs : List (Int × Int)} (h : Spans w (some ⟨b, off, none⟩) n c xs) {B : Nat} (hb : Below B w wr) (hbl : b < B) (k : Nat) (hk : k < n) :
    ∃ f t, Hid (xs.getD k (0, 0) = (f, t)) ∧ wr.cell? ⟨b, off + k * 2, none⟩ = some (.int .i64 f) ∧ wr.cell? ⟨b, off + k * 2 + 1, none⟩ = some (.int .i64 t) := by
  obtain ⟨b', off', e, _, hc⟩ := h.at_ k hk
  injection e with e; injection e with e1 e2
  subst e1; subst e2
  obtain ⟨h1, h2⟩ := hc k hk
  exact ⟨_, _, rfl, (hb.cell (p := ⟨b, off + k * 2, none⟩) hbl).trans h1, (hb.cell (p := ⟨b, off + k * 2 + 1, none⟩) hbl).trans h2⟩

theorem own_below {w w' : World} {base : Nat} {e : TypeId} {size : Nat} {v : Value} {n : Nat} {xs : List Value} (h : w.ownsRow base e size v n xs) (hb : Below w.heap.size w w') : w'.ownsRow base e size v n xs :=
  h.kept (row := none) ⟨hb.os, hb.tape, hb.output, hb.size, fun k hk _ => hb.block k hk⟩ (by cases hv : v.ownBlock <;> simp)

theorem take_set2 {α : Type} (ys zs : List α) (j : Nat) (a b : α) (h : ys.take j = zs.take j) (hl : ys.length = zs.length) (ha : zs[j]? = some a) (hb : zs[j + 1]? = some b) : ((ys.set j a).set (j + 1) b).take (j + 2) = zs.take (j + 2) := by
  apply List.ext_getElem?
  intro i
  have hj : j < zs.length := by have := (List.getElem?_eq_some_iff.1 ha).1; omega
  have hj1 : j + 1 < zs.length := by have := (List.getElem?_eq_some_iff.1 hb).1; omega
  by_cases hi : i < j + 2
  · rw [List.getElem?_take_of_lt hi, List.getElem?_take_of_lt hi]
    by_cases e1 : i = j + 1
    · subst e1; rw [List.getElem?_set_self (by simp; omega), hb]
    · rw [List.getElem?_set_ne (by omega)]
      by_cases e2 : i = j
      · subst e2; rw [List.getElem?_set_self (by omega), ha]
      · rw [List.getElem?_set_ne (by omega)]
        have := congrArg (fun l => l[i]?) h
        simp only [List.getElem?_take_of_lt (show i < j by omega)] at this
        exact this
  · rw [List.getElem?_take_eq_none (by omega), List.getElem?_take_eq_none (by omega)]
theorem take_set1 {α : Type} (ys zs : List α) (j : Nat) (a : α) (h : ys.take j = zs.take j) (hl : ys.length = zs.length) (ha : zs[j]? = some a) : (ys.set j a).take (j + 1) = zs.take (j + 1) := by
  apply List.ext_getElem?
  intro i
  have hj : j < zs.length := by have := (List.getElem?_eq_some_iff.1 ha).1; omega
  by_cases hi : i < j + 1
  · rw [List.getElem?_take_of_lt hi, List.getElem?_take_of_lt hi]
    by_cases e2 : i = j
    · subst e2; rw [List.getElem?_set_self (by omega), ha]
    · rw [List.getElem?_set_ne (by omega)]
      have := congrArg (fun l => l[i]?) h
      simp only [List.getElem?_take_of_lt (show i < j by omega)] at this
      exact this
  · rw [List.getElem?_take_eq_none (by omega), List.getElem?_take_eq_none (by omega)]

/-- a contract's Bool, known -/
theorem isb {P : Program} {f : FuncId} {args : Array Value} {w : World} {p q : Bool} (h : Calls P f args w fun e w' => e = .returned (.bool p) ∧ Below w.heap.size w w') (e : p = q) :
    Calls P f args w fun e w' => e = .returned (.bool q) ∧ Below w.heap.size w w' := e ▸ h
theorem two_boxes (w : World) (x y : Obj) : Below w.heap.size w ((w.alloc x).alloc y) := ((Below.refl _ _).alloc (Nat.le_refl _) _).alloc (by simp) _
theorem three_boxes (w : World) (x y z : Obj) : Below w.heap.size w (((w.alloc x).alloc y).alloc z) := (two_boxes _ _ _).alloc (by simp; omega) _
theorem bcell {W w1 : World} (hb : Below W.heap.size W w1) : ∀ b o, b < W.heap.size → w1.cell? ⟨b, o, none⟩ = W.cell? ⟨b, o, none⟩ := fun b o h => hb.cell (p := ⟨b, o, none⟩) h
theorem bfree {W w1 : World} (hb : Below W.heap.size W w1) : ∀ b o, b < W.heap.size → w1.frozen? ⟨b, o, none⟩ = W.frozen? ⟨b, o, none⟩ := fun b o h => hb.frozen (p := ⟨b, o, none⟩) h

theorem run_make_rowN {P : Program} (t e : TypeId) (i : TypeInfo) (z : Value) (ht : P.underlying t = some (.slice e)) (hi : P.info? e = some i) (hz : i.zero = some z)
    (kl kc : IntKind) (n c : Nat) (hnc : n ≤ c) (hbytes : i.bytes * c ≤ 281474976710656) (h63 : c ≤ 9223372036854775807) (w : World) :
    (Instr.makeSlice t (.int kl (n : Int)) (.int kc (c : Int))).run P w = .ok (.slice (some ⟨w.heap.size, 0, none⟩) n c) (w.alloc (.cells (madeCells z.cells (c * i.size)) e)) := by
  have hb : (i.bytes : Int) * (c : Int) ≤ 281474976710656 := by
    have h : ((i.bytes * c : Nat) : Int) ≤ 281474976710656 := by omega
    rwa [Int.natCast_mul] at h
  have hr := run_make (P := P) w t e i z ht hi hz kl kc n c (by omega) (by omega) hb (by omega)
  simp only [Int.toNat_natCast] at hr
  exact hr
end Go.Proofs.YtpnbbhomkneflaaGreatDoor
namespace Go.Proofs.YtpnbbhomkneflaaGreatDoor
open Go.ChangeShapes Go.WideShapes Go.ChangeAt Go.RowKit Go.Deep Go.Joins

section
variable {H : Type} {enc : TypeId × Value → H} {P : Program} {w : World} {base : Nat} {spare : Nat → Bool} {held : Bool}

/-- the cells of a row of elements, each of 'size' cells -/
theorem cells_at {a : Addr} {size i : Nat} {cs' : List Value} (h : w.cells? base (a.add (i * size)) size = some cs') : cs'.length = size ∧ ∀ j, j < size → w.cell? (a.add (i * size + j)) = cs'[j]? := by
  obtain ⟨_, hl, hc⟩ := World.cells?_some h
  exact ⟨hl, fun j hj => by rw [← hc j hj, Go.Deep.add_add]⟩

theorem flat_len {n size : Nat} {el : Nat → List Value} (hlen : ∀ i, i < n → (el i).length = size) : ((List.range n).flatMap el).length = n * size := by
  induction n with
  | zero => simp
  | succ n ih =>
    rw [List.range_succ, List.flatMap_append, List.length_append, ih (fun i h => hlen i (by omega)), Nat.add_mul]
    simp [hlen n (by omega)]
theorem flat_at {n size : Nat} {el : Nat → List Value} (hlen : ∀ i, i < n → (el i).length = size) {j : Nat} {u : Value} (hu : ((List.range n).flatMap el)[j]? = some u) :
    ∃ i k, i < n ∧ k < size ∧ j = i * size + k ∧ (el i)[k]? = some u := by
  induction n with
  | zero => simp at hu
  | succ n ih =>
    have hl' : ∀ i, i < n → (el i).length = size := fun i h => hlen i (by omega)
    have hln := flat_len hl'
    rw [List.range_succ, List.flatMap_append, List.getElem?_append] at hu
    split at hu
    · obtain ⟨i, k, h1, h2, h3, h4⟩ := ih hl' hu
      exact ⟨i, k, by omega, h2, h3, h4⟩
    · rename_i hge
      rw [hln] at hge hu
      simp only [List.flatMap_cons, List.flatMap_nil, List.append_nil] at hu
      have hk := (List.getElem?_eq_some_iff.1 hu).1
      rw [hlen n (by omega)] at hk
      exact ⟨n, j - n * size, by omega, hk, by omega, hu⟩
theorem congr_flat {α β : Type} {f g : α → List β} {l : List α} (h : ∀ x, x ∈ l → f x = g x) : l.flatMap f = l.flatMap g := by
  induction l with
  | nil => rfl
  | cons a l ih => rw [List.flatMap_cons, List.flatMap_cons, h a (by simp), ih (fun x hx => h x (by simp [hx]))]

/-- A SLICE, opened at every element: its cells, and each element's own reading. -/
theorem open_row {t e : TypeId} {size : Nat} {v : Value} {r : Reach} {b0 : Nat} {d : DataW H} {p : List MemPlace} (ht : P.underlying t = some (.slice e)) (hC : P.cellsOf e = size) (hs : 0 < size)
    (hv : Value.okWide P w r b0 t v) (h : DataW.Trod enc P w base spare held t v d p) :
    ∃ (A : Option Addr) (n c : Nat) (el : Nat → List Value) (fuel : Nat), v = .slice A n c ∧ Reads w size A n c ((List.range n).flatMap el) ∧ (∀ i, i < n → (el i).length = size) ∧
      ∀ i, i < n → ∃ y, DataW.trod enc P w base spare held fuel e (el i) = some y := by
  obtain ⟨A, n, c, rfl⟩ := okWide_slice ht hv
  obtain ⟨fuel, hf⟩ := h
  rcases open_slice ht hf with ⟨hcs, _⟩ | ⟨a, len, cap, m, k, D, Pl, hcs, hb, hl, hm, hmm, _, hi⟩
  · simp [Value.cells] at hcs
    obtain ⟨rfl, rfl, rfl⟩ := hcs
    exact ⟨none, 0, 0, fun _ => [], 0, rfl, ⟨Nat.le_refl _, Nat.zero_le _, by simp, fun h => absurd h (by omega)⟩, fun i h => absurd h (by omega), fun i h => absurd h (by omega)⟩
  · simp [Value.cells] at hcs
    obtain ⟨rfl, rfl, rfl⟩ := hcs
    have hnm : n ≤ m := by rw [hmm]; split <;> omega
    rw [hC] at hi
    have hex : ∀ i, ∃ cs', i < n → w.cells? base (a.add (i * size)) size = some cs' ∧ DataW.trod enc P w base spare held k e cs' = some (D i, Pl i) := fun i => by
      by_cases h : i < n
      · obtain ⟨cs', h1, h2⟩ := hi i (by omega)
        exact ⟨cs', fun _ => ⟨h1, h2⟩⟩
      · exact ⟨[], fun h' => absurd h' h⟩
    obtain ⟨el, hel⟩ := Classical.axiomOfChoice hex
    have hlen : ∀ i, i < n → (el i).length = size := fun i h => (cells_at (hel i h).1).1
    refine ⟨some a, n, c, el, k, rfl, ⟨hl, hm, ?_, fun hn => ?_⟩, hlen, fun i h => ⟨_, (hel i h).2⟩⟩
    · exact flat_len hlen
    · have h00 := (cells_at (hel 0 hn).1).2 0 hs
      rw [List.getElem?_eq_getElem (by rw [hlen 0 hn]; exact hs)] at h00
      obtain ⟨b, off, sp⟩ := a
      have hsp : sp = none := by
        have := World.cell?_spot h00
        unfold Addr.add at this
        simpa using this
      subst hsp
      have hadd : ∀ j, (⟨b, off, none⟩ : Addr).add j = ⟨b, off + j, none⟩ := fun j => by
        unfold Addr.add
        split
        · rename_i h0; rw [h0]; rfl
        · rfl
      refine ⟨b, off, rfl, ?_, fun j u hu => ?_⟩
      · have := World.block_lt_of_cell? w _ h00
        rw [hadd] at this
        exact this
      · obtain ⟨i, k2, hi1, hk2, hj, hu2⟩ := flat_at hlen hu
        have := (cells_at (hel i hi1).1).2 k2 hk2
        rw [hadd, hu2] at this
        rw [hj]
        exact this

theorem struct2 {e : TypeId} {f0 f1 : Field} {fuel : Nat} {cs : List Value} {y : DataW H × List MemPlace} (he : P.underlying e = some (.struct #[f0, f1])) (hone : oneCellFields P #[f0, f1] = true) (hl : cs.length = 2)
    (h : DataW.trod enc P w base spare held fuel e cs = some y) :
    ∃ (v0 v1 : Value) (n : Nat) (y0 y1 : DataW H × List MemPlace), cs = [v0, v1] ∧ DataW.trod enc P w base spare held n f0.type [v0] = some y0 ∧ DataW.trod enc P w base spare held n f1.type [v1] = some y1 := by
  obtain ⟨xs, n, _, _, _, hlen, hg⟩ := DataW.trod_struct he h
  obtain ⟨o0, k0⟩ := hone_of hone 0 f0 rfl
  obtain ⟨o1, k1⟩ := hone_of hone 1 f1 rfl
  match cs, hl with
  | [c0, c1], _ =>
    match xs, hlen with
    | [y0, y1], _ => exact ⟨c0, c1, n, y0, y1, rfl, by simpa [o0, k0] using hg 0 f0 rfl, by simpa [o1, k1] using hg 1 f1 rfl⟩

theorem open_spans {t e i0 : TypeId} {f0 f1 : Field} {v : Value} {r : Reach} {b0 : Nat} {d : DataW H} {p : List MemPlace} (ht : P.underlying t = some (.slice e)) (he : P.underlying e = some (.struct #[f0, f1]))
    (hone : oneCellFields P #[f0, f1] = true) (hC : P.cellsOf e = 2) (h0 : f0.type = i0) (h1 : f1.type = i0) (hi : P.underlying i0 = some (.int .i64))
    (hv : Value.okWide P w r b0 t v) (h : DataW.Trod enc P w base spare held t v d p) :
    ∃ (A : Option Addr) (n c : Nat) (xs : List (Int × Int)), v = .slice A n c ∧ Spans w A n c xs := by
  obtain ⟨A, n, c, el, fuel, rfl, hr, hl, he2⟩ := open_row ht hC (by omega) hv h
  have hex : ∀ i, ∃ s : Int × Int, i < n → el i = [.int .i64 s.1, .int .i64 s.2] := fun i => by
    by_cases hlt : i < n
    · obtain ⟨y, hy⟩ := he2 i hlt
      obtain ⟨v0, v1, m, y0, y1, hcs, ht0, ht1⟩ := struct2 he hone (hl i hlt) hy
      rw [h0] at ht0; rw [h1] at ht1
      obtain ⟨a, ha, _⟩ := DataW.trod_int hi ht0
      obtain ⟨b, hb, _⟩ := DataW.trod_int hi ht1
      simp only [List.cons.injEq, and_true] at ha hb
      exact ⟨(a, b), fun _ => by rw [hcs, ha, hb]⟩
    · exact ⟨(0, 0), fun h => absurd h hlt⟩
  obtain ⟨X, hX⟩ := Classical.axiomOfChoice hex
  refine ⟨A, n, c, (List.range n).map X, rfl, by simp, ?_⟩
  have : spanCells ((List.range n).map X) = (List.range n).flatMap el := by
    unfold spanCells
    rw [List.flatMap_map]
    apply congr_flat
    intro i hi
    exact (hX i (by simpa using hi)).symm
  rw [this]
  exact hr
end
end Go.Proofs.YtpnbbhomkneflaaGreatDoor
namespace Go.Proofs.YtpnbbhomkneflaaGreatDoor
mutual
def flatD : DataW Unit → List Value
  | .lit (.int k n) => [.int k n]
  | .agg parts => flatDs parts
  | _ => []
def flatDs : List (DataW Unit) → List Value
  | [] => []
  | d :: r => flatD d ++ flatDs r
end
def setTab (heap : Array Obj) (g : Nat) (d : DataW Unit) : Array Obj := heap.modify g fun
  | .cells _ t frozen => .cells (flatD d).toArray t frozen
  | o => o
end Go.Proofs.YtpnbbhomkneflaaGreatDoor
namespace Go.Proofs
open Go.Shelf
def Tryz.lays160_ren : Go.Shelf.Ren := ⟨fun | 160 => 75 | 232 => 84 | 231 => 83 | 227 => 85 | 234 => 87 | 233 => 86 | 236 => 89 | 235 => 88 | 228 => 93 | 271 => 96 | 151 => 95 | 197 => 94 | 120 => 102 | 152 => 101 | 260 => 100 | 137 => 106 | 119 => 107 | 224 => 108 | 225 => 109 | 217 => 110 | 266 => 112 | n => n, fun | 9 => 9 | 4 => 4 | 3 => 3 | 5 => 5 | 117 => 109 | 116 => 108 | 0 => 0 | 124 => 112 | 21 => 21 | 105 => 115 | 46 => 86 | 119 => 122 | 139 => 125 | 138 => 124 | n => n, fun | 3 => 0 | 4 => 1 | n => n⟩
theorem Tryz.lays160 : Go.Proofs.Lays.n160 Tryz.prog Tryz.lays160_ren := {
  mixed := by kernel_rfl
  f119 := Tryz.func107.trans (congrArg some (by kernel_rfl))
  f120 := Tryz.func102.trans (congrArg some (by kernel_rfl))
  f137 := Tryz.func106.trans (congrArg some (by kernel_rfl))
  f151 := Tryz.func95.trans (congrArg some (by kernel_rfl))
  f152 := Tryz.func101.trans (congrArg some (by kernel_rfl))
  f160 := Tryz.func75.trans (congrArg some (by kernel_rfl))
  f197 := Tryz.func94.trans (congrArg some (by kernel_rfl))
  f217 := Tryz.func110.trans (congrArg some (by kernel_rfl))
  f224 := Tryz.func108.trans (congrArg some (by kernel_rfl))
  f225 := Tryz.func109.trans (congrArg some (by kernel_rfl))
  f227 := Tryz.func85.trans (congrArg some (by kernel_rfl))
  f228 := Tryz.func93.trans (congrArg some (by kernel_rfl))
  f231 := Tryz.func83.trans (congrArg some (by kernel_rfl))
  f232 := Tryz.func84.trans (congrArg some (by kernel_rfl))
  f233 := Tryz.func86.trans (congrArg some (by kernel_rfl))
  f234 := Tryz.func87.trans (congrArg some (by kernel_rfl))
  f235 := Tryz.func88.trans (congrArg some (by kernel_rfl))
  f236 := Tryz.func89.trans (congrArg some (by kernel_rfl))
  f260 := Tryz.func100.trans (congrArg some (by kernel_rfl))
  f266 := Tryz.func112.trans (congrArg some (by kernel_rfl))
  f271 := Tryz.func96.trans (congrArg some (by kernel_rfl))
  t0 := Tryz.underlying0
  a0 := Tryz.isAgg0
  z0 := Tryz.sizeOf0
  v0 := Tryz.zeroValue0
  t3 := Tryz.underlying3
  a3 := Tryz.isAgg3
  z3 := Tryz.sizeOf3
  v3 := Tryz.zeroValue3
  t4 := Tryz.underlying4
  a4 := Tryz.isAgg4
  z4 := Tryz.sizeOf4
  v4 := Tryz.zeroValue4
  t5 := Tryz.underlying5
  a5 := Tryz.isAgg5
  z5 := Tryz.sizeOf5
  v5 := Tryz.zeroValue5
  t9 := Tryz.underlying9
  a9 := Tryz.isAgg9
  z9 := Tryz.sizeOf9
  v9 := Tryz.zeroValue9
  t21 := Tryz.underlying21
  a21 := Tryz.isAgg21
  z21 := Tryz.sizeOf21
  v21 := Tryz.zeroValue21
  t46 := Tryz.underlying86
  a46 := Tryz.isAgg86
  z46 := Tryz.sizeOf86
  v46 := Tryz.zeroValue86
  t105 := Tryz.underlying115
  a105 := Tryz.isAgg115
  z105 := Tryz.sizeOf115
  v105 := Tryz.zeroValue115
  t116 := Tryz.underlying108
  a116 := Tryz.isAgg108
  z116 := Tryz.sizeOf108
  t117 := Tryz.underlying109
  a117 := Tryz.isAgg109
  z117 := Tryz.sizeOf109
  v117 := Tryz.zeroValue109
  t119 := Tryz.underlying122
  a119 := Tryz.isAgg122
  z119 := Tryz.sizeOf122
  t124 := Tryz.underlying112
  a124 := Tryz.isAgg112
  z124 := Tryz.sizeOf112
  v124 := Tryz.zeroValue112
  t138 := Tryz.underlying124
  a138 := Tryz.isAgg124
  z138 := Tryz.sizeOf124
  v138 := Tryz.zeroValue124
  t139 := Tryz.underlying125
  a139 := Tryz.isAgg125
  z139 := Tryz.sizeOf125
  v139 := Tryz.zeroValue125
  g3 := by kernel_rfl
  g4 := by kernel_rfl }
open Go.RowKit in
/-- strings.Trim: "Trim returns a slice of the string s with all leading and trailing Unicode code points contained in cutset removed.": AT A cutset OF ONE ASCII BYTE. THE WORLD BEHIND IT: as it was, or (where s is not empty) with ONE DRAW MORE off the tape: the statement 'return trimLeftByte(trimRightByte(s, c), c)' draws its order of evaluation. (LAID: no walk: one application.) -/
theorem Tryz.strings_Trim_one (s : ByteArray) (c : UInt8) (hc : c.toNat < 128) (w : World) (hs : s.size ≤ 9223372036854775807) :
    Calls Tryz.prog 75 #[.string s, .string ⟨#[c]⟩] w fun e w' => e = .returned (.string ⟨(Lib.trimB s.data.toList c).toArray⟩) ∧ (w' = w ∨ w' = w.drew) := Any.strings_Trim_one Tryz.lays160 s c hc w hs
end Go.Proofs
namespace Go.Proofs.YtpnbbhomkneflaaGreatDoor
open Go.ChangeShapes Go.WideShapes Go.ChangeAt Go.RowKit

theorem ret_bool {p q : Bool} (h : p = q) : Ending.returned (.bool p) = .returned (.bool q) := by rw [h]
/-! ## plain words -/
def lower (c : UInt8) : Bool := decide (97 ≤ c.toNat ∧ c.toNat ≤ 122)
def small (lo hi : Int) (s : ByteArray) : Bool := s.data.toList.all lower && decide (lo ≤ s.size ∧ (s.size : Int) ≤ hi)
def isWord (s : ByteArray) : Bool := small 1 16 s
def letters26 : ByteArray := ⟨#[97, 98, 99, 100, 101, 102, 103, 104, 105, 106, 107, 108, 109, 110, 111, 112, 113, 114, 115, 116, 117, 118, 119, 120, 121, 122]⟩

theorem lower_mem (c : UInt8) : letters26.data.toList.contains c = lower c := by
  have : ∀ n : Fin 256, letters26.data.toList.contains (UInt8.ofNat n.val) = lower (UInt8.ofNat n.val) := by decide +kernel
  have h := this ⟨c.toNat, c.toNat_lt⟩
  simpa using h

theorem drop_all {α : Type} (p : α → Bool) (l : List α) : (l.dropWhile p).isEmpty = l.all p := by
  induction l with
  | nil => rfl
  | cons a l ih =>
    simp only [List.dropWhile_cons, List.all_cons]
    cases p a
    · rfl
    · simpa using ih
theorem drop_all' {α : Type} (p : α → Bool) (l : List α) : (l.dropWhile p).all p = l.all p := by
  induction l with
  | nil => rfl
  | cons a l ih =>
    simp only [List.dropWhile_cons, List.all_cons]
    cases h : p a
    · simp [h]
    · simpa using ih
theorem trim_empty (s : ByteArray) : (Lib.trimS s.data.toList letters26.data.toList).isEmpty = s.data.toList.all lower := by
  have e : (fun c => letters26.data.toList.contains c) = lower := funext lower_mem
  unfold Lib.trimS Lib.trimLeftS Lib.trimRightS
  rw [e, drop_all, List.all_reverse, drop_all', List.all_reverse]

theorem Trim_any (s : ByteArray) (w : World) (hs : s.size ≤ 9223372036854775807) :
    Calls Tryz.prog 75 #[.string s, .string ⟨#[97, 98, 99, 100, 101, 102, 103, 104, 105, 106, 107, 108, 109, 110, 111, 112, 113, 114, 115, 116, 117, 118, 119, 120, 121, 122]⟩] w fun e w' => e = .returned (.string ⟨(Lib.trimS s.data.toList letters26.data.toList).toArray⟩) ∧ Below w.heap.size w w' :=
  Any.strings_Trim_laid Tryz.lays160 (by kernel_rfl) s letters26 w hs (by decide) (ascii_of_all (by decide))

set_option maxHeartbeats 400000 in
theorem within_any (y f t : Int) (w : World) :
    Calls Tryz.prog 62 #[.int .i64 y, .int .i64 f, .int .i64 t] w fun e w' => e = .returned (.bool (decide (f ≤ y ∧ y ≤ t))) ∧ Below w.heap.size w w' := by
  go_enter Tryz.func62, Tryz.ntmps62
  go_wp2
  all_goals
    go_ret
    exact ⟨ret_bool (by rw [Bool.eq_iff_iff]; simp; try omega), Below.refl _ _⟩
set_option maxHeartbeats 400000 in
theorem l01In_any (y f t : Int) (w : World) :
    Calls Tryz.prog 49 #[.int .i64 y, .int .i64 f, .int .i64 t] w fun e w' => e = .returned (.bool (decide (f ≤ y ∧ y ≤ t))) ∧ Below w.heap.size w w' := by
  go_enter Tryz.func49, Tryz.ntmps49
  go_wp2
  all_goals
    go_ret
    exact ⟨ret_bool (by rw [Bool.eq_iff_iff]; simp; try omega), Below.refl _ _⟩

set_option maxHeartbeats 400000 in
theorem isSmall_any (s : ByteArray) (lo hi : Int) (w : World) (hs : s.size ≤ maxLen) :
    Calls Tryz.prog 60 #[.string s, .int .i64 lo, .int .i64 hi] w fun e w' => e = .returned (.bool (small lo hi s)) ∧ Below w.heap.size w w' := by
  unfold maxLen at hs
  cases hw : decide (lo ≤ (s.size : Int) ∧ (s.size : Int) ≤ hi)
  · have H := Lib.hid (show small lo hi s = false by unfold small; rw [hw, Bool.and_false])
    have hc := isb (within_any s.size lo hi w) hw
    have HC := Lib.hid hc
    clear hc hw
    go_enter Tryz.func60, Tryz.ntmps60
    go_wp2_with fail
    refine HC.out.mono ?_
    rintro e_ w1 ⟨rfl, h1⟩
    go_wp2
    go_ret
    exact ⟨by rw [H.out]; rfl, h1⟩
  · have H := Lib.hid (show small lo hi s = s.data.toList.all lower by unfold small; rw [hw, Bool.and_true])
    have hc := isb (within_any s.size lo hi w) hw
    have HC := Lib.hid hc
    clear hc hw
    cases ht : s.data.toList.all lower
    all_goals
      have he := trim_empty s
      rw [ht] at he
      have HT := Lib.hid ht
      clear ht
      go_enter Tryz.func60, Tryz.ntmps60
      go_wp2_with fail
      refine HC.out.mono ?_
      rintro e_ w1 ⟨rfl, h1⟩
      go_wp2_with fail
      refine (Trim_any s _ hs).mono ?_
      rintro e_ w2 ⟨rfl, h2⟩
      go_wp2
      go_ret
      exact ⟨by rw [H.out, HT.out]; rfl, next h1 h2⟩

theorem IsWord_impl (s : ByteArray) (w : World) (hs : s.size ≤ maxLen) :
    Calls Tryz.prog 54 #[.string s] w fun e w' => e = .returned (.bool (isWord s)) ∧ Below w.heap.size w w' := by
  go_enter Tryz.func54, Tryz.ntmps54
  go_wp2_with fail
  refine (isSmall_any s 1 16 _ hs).mono ?_
  rintro e_ w1 ⟨rfl, h1⟩
  have hc_w1 := bcell h1; have hf_w1 := bfree h1
  go_wp2
  go_ret
  exact ⟨rfl, h1⟩

theorem lower_u8 (c : UInt8) : lower c = decide (¬ ((c.toNat : Int) < 97) ∧ ¬ (122 < (c.toNat : Int))) := by
  unfold lower
  apply decide_eq_decide.2
  omega
theorem all_upto {p : UInt8 → Bool} {s : ByteArray} {k : Nat} (hk : k < s.size) (h : (s.data.toList.take k).all p = true) (hc : p s[k] = true) : (s.data.toList.take (k + 1)).all p = true := by
  rw [List.take_succ_eq_append_getElem (by simpa using hk), List.all_append, h]
  have : p (s.data.toList[k]'(by simpa using hk)) = true := hc
  simp only [List.all_cons, List.all_nil, Bool.and_true, Bool.true_and]
  exact this
theorem all_no {p : UInt8 → Bool} {s : ByteArray} {k : Nat} (hk : k < s.size) (hc : p s[k] = false) : s.data.toList.all p = false := by
  rw [List.all_eq_false]
  refine ⟨s[k], ?_, by simp [hc]⟩
  have : s.data.toList[k]'(by simpa using hk) = s[k] := rfl
  rw [← this]
  exact List.getElem_mem _
theorem all_end {p : UInt8 → Bool} {s : ByteArray} {k : Nat} (hk : s.size ≤ k) (h : (s.data.toList.take k).all p = true) : s.data.toList.all p = true := by
  rw [List.take_of_length_le (by simpa using hk)] at h
  exact h

set_option maxHeartbeats 800000 in
theorem IsWord_spec (s : ByteArray) (w : World) (hs : s.size ≤ maxLen) :
    Calls Tryz.prog 27 #[.string s] w fun e w' => e = .returned (.bool (isWord s)) ∧ Below w.heap.size w w' := by
  unfold maxLen at hs
  go_enter Tryz.func27, Tryz.ntmps27
  go_wp2
  go_loopw [3] (fun i wr => ∃ k : Nat, k ≤ s.size ∧ i = .int .i64 k ∧ Hid ((s.data.toList.take k).all lower = true) ∧ Below w.heap.size w wr) (fun i _ => s.size - (intOf i).toNat)
  case atStart => exact ⟨0, Nat.zero_le _, rfl, by simp [Hid], Below.refl _ _⟩
  case round =>
    obtain ⟨k, hk, rfl, hup, hb⟩ := hrel
    by_cases hlt : k < s.size
    · by_cases hl : lower s[k] = true
      · have HU := Lib.hid (all_upto hlt hup.out hl)
        rw [lower_u8] at hl
        have hl2 := of_decide_eq_true hl
        clear hl hup
        obtain ⟨h1, h2⟩ := hl2
        go_wp2
        go_roundw
        case rel => exact ⟨k + 1, by omega, by go_num, HU, hb⟩
        case measure => simp [intOf]; omega
      · have hl' : lower s[k] = false := by simpa using hl
        have HN := Lib.hid (show isWord s = false by unfold isWord small; rw [all_no hlt hl', Bool.false_and])
        rw [lower_u8] at hl'
        have hl2 := of_decide_eq_false hl'
        clear hl hl' hup
        by_cases h1 : (s[k].toNat : Int) < 97
        · go_wp2
          go_ret
          exact ⟨by rw [HN.out]; rfl, hb⟩
        · have h2 : 122 < (s[k].toNat : Int) := by omega
          clear hl2
          go_wp2
          go_ret
          exact ⟨by rw [HN.out]; rfl, hb⟩
    · have HA := Lib.hid (all_end (by omega) hup.out)
      have HW := Lib.hid (show isWord s = decide ((1 : Int) ≤ s.size ∧ (s.size : Int) ≤ 16) by unfold isWord small; rw [HA.out, Bool.true_and])
      clear hup
      have HC := Lib.hid (l01In_any s.size 1 16 wr)
      go_wp2_with fail
      refine HC.out.mono ?_
      rintro e_ w1 ⟨rfl, h1⟩
      go_wp2
      go_ret
      exact ⟨ret_bool (by rw [HW.out]; simp), next hb h1⟩

/-! ## two words -/
def twoCode (a b : ByteArray) : Int := if isWord a = true ∧ isWord b = true then 0 else 1
theorem two_cases (a b : ByteArray) : (Hid (twoCode a b = 0) ∧ isWord a = true ∧ isWord b = true) ∨ (Hid (twoCode a b = 1) ∧ (isWord a = false ∨ (isWord a = true ∧ isWord b = false))) := by
  unfold twoCode Hid
  cases h1 : isWord a <;> cases h2 : isWord b <;> simp

/-- a slice of strings, as the list of them -/
def Strs (w : World) (A : Option Addr) (n c : Nat) (xs : List ByteArray) : Prop := n = xs.length ∧ Reads w 1 A n c (xs.map Value.string) ∧ ∀ x ∈ xs, x.size ≤ maxLen
theorem Strs.below {w w' : World} {A : Option Addr} {n c : Nat} {xs : List ByteArray} (h : Strs w A n c xs) (hb : Below w.heap.size w w') : Strs w' A n c xs := ⟨h.1, h.2.1.below hb, h.2.2⟩
theorem Strs.at_ {w : World} {A : Option Addr} {n c : Nat} {xs : List ByteArray} (h : Strs w A n c xs) (k : Nat) (hk : k < n) : ∃ b off, A = some ⟨b, off, none⟩ ∧ b < w.heap.size := by
  obtain ⟨b, off, e, hlt, _⟩ := h.2.1.at_ (by omega)
  exact ⟨b, off, e, hlt⟩
theorem Strs.el {w wr : World} {b off n c : Nat} {xs : List ByteArray} (h : Strs w (some ⟨b, off, none⟩) n c xs) {B : Nat} (hb : Below B w wr) (hbl : b < B) (k : Nat) (hk : k < n) :
    ∃ s, Hid (xs[k]? = some s) ∧ wr.cell? ⟨b, off + k, none⟩ = some (.string s) ∧ s.size ≤ maxLen := by
  obtain ⟨b', off', e, _, hc⟩ := h.2.1.at_ (by omega)
  injection e with e; injection e with e1 e2
  subst e1; subst e2
  have hl : k < xs.length := by rw [← h.1]; exact hk
  refine ⟨xs[k], List.getElem?_eq_getElem hl, (hb.cell (p := ⟨b, off + k, none⟩) hbl).trans (hc k _ (by simp [hl])), h.2.2 _ (List.getElem_mem hl)⟩
theorem all_at {α : Type} {p : α → Bool} {xs : List α} {k : Nat} {s : α} (h : Hid (xs[k]? = some s)) (hp : (xs.take k).all p = true) (hs : p s = true) : (xs.take (k + 1)).all p = true := by
  obtain ⟨hk, e⟩ := List.getElem?_eq_some_iff.1 h.out
  rw [List.take_succ_eq_append_getElem hk, List.all_append, hp, e]
  simp [hs]
theorem all_not {α : Type} {p : α → Bool} {xs : List α} {k : Nat} {s : α} (h : Hid (xs[k]? = some s)) (hs : p s = false) : xs.all p = false := by
  obtain ⟨hk, e⟩ := List.getElem?_eq_some_iff.1 h.out
  rw [List.all_eq_false]
  exact ⟨s, by rw [← e]; exact List.getElem_mem _, by simp [hs]⟩
theorem all_done {α : Type} {p : α → Bool} {xs : List α} {k n : Nat} (hn : n = xs.length) (hk : n ≤ k) (hp : (xs.take k).all p = true) : xs.all p = true := by
  rw [List.take_of_length_le (by omega)] at hp
  exact hp

set_option maxHeartbeats 800000 in
theorem areWords_any (A : Option Addr) (n c : Nat) (xs : List ByteArray) (w : World) (hx : Strs w A n c xs) :
    Calls Tryz.prog 25 #[.slice A n c] w fun e w' => e = .returned (.bool (xs.all isWord)) ∧ Below w.heap.size w w' := by
  have hm := hx.2.1.cap
  have hnc := hx.2.1.le
  unfold maxLen at hm
  have HN := Lib.hid hx.1
  go_enter Tryz.func25, Tryz.ntmps25
  go_wp2
  go_loopw [7] (fun i wr => ∃ k : Nat, k ≤ n ∧ i = .int .i64 k ∧ Hid ((xs.take k).all isWord = true) ∧ Below w.heap.size w wr) (fun i _ => n - (intOf i).toNat)
  case atStart => exact ⟨0, Nat.zero_le _, rfl, by simp [Hid], Below.refl _ _⟩
  case round =>
    obtain ⟨k, hk, rfl, hup, hb⟩ := hrel
    by_cases hlt : k < n
    · obtain ⟨b, off, rfl, hbl⟩ := hx.at_ k hlt
      obtain ⟨s, hs, c0, hsz⟩ := hx.el hb hbl k hlt
      cases hw : isWord s
      · go_wp2_with fail
        refine (IsWord_impl s _ hsz).mono ?_
        rintro e_ w1 ⟨rfl, h1⟩
        have hc_w1 := bcell h1; have hf_w1 := bfree h1
        have HF := Lib.hid (all_not hs hw)
        go_wp2
        go_ret
        exact ⟨by rw [HF.out]; rfl, next hb h1⟩
      · go_wp2_with fail
        refine (IsWord_impl s _ hsz).mono ?_
        rintro e_ w1 ⟨rfl, h1⟩
        have hc_w1 := bcell h1; have hf_w1 := bfree h1
        have HU := Lib.hid (all_at hs hup.out hw)
        clear hup
        go_wp2
        go_roundw
        case rel => exact ⟨k + 1, by omega, by go_num, HU, next hb h1⟩
        case measure => simp [intOf]; omega
    · have HF := Lib.hid (all_done HN.out (by omega) hup.out)
      clear hup
      go_wp2
      go_ret
      exact ⟨by rw [HF.out]; rfl, hb⟩

theorem strs_two (w : World) (a b : ByteArray) (t : TypeId) (ha : a.size ≤ maxLen) (hb : b.size ≤ maxLen) : Strs (w.alloc (.cells #[.string a, .string b] t)) (some ⟨w.heap.size, 0, none⟩) 2 2 [a, b] :=
  ⟨rfl, ⟨Nat.le_refl _, by unfold maxLen; omega, rfl, fun _ => ⟨w.heap.size, 0, rfl, by simp, fun j u hu => by
    rw [Nat.zero_add]
    match j, hu with
    | 0, hu => simp at hu; subst hu; go_simp
    | 1, hu => simp at hu; subst hu; go_simp
    | j + 2, hu => simp at hu⟩⟩, by simp [ha, hb]⟩

set_option maxHeartbeats 800000 in
theorem two_words (P : Bool) (a b : ByteArray) (w : World) (ha : a.size ≤ maxLen) (hb : b.size ≤ maxLen) (hP : [a, b].all isWord = P) :
    Calls Tryz.prog 25 #[.slice (some ⟨w.heap.size, 0, none⟩) 2 2] (w.alloc (.cells #[.string a, .string b] 9)) fun e w' => e = .returned (.bool P) ∧ Below w.heap.size w w' := by
  refine (areWords_any _ 2 2 [a, b] _ (strs_two w a b 9 ha hb)).mono fun e w' ⟨he, h⟩ => ⟨by rw [he, hP], next ((Below.refl _ _).alloc (Nat.le_refl _) _) h⟩
theorem two_all (a b : ByteArray) : [a, b].all isWord = decide (twoCode a b = 0) := by
  unfold twoCode
  cases h1 : isWord a <;> cases h2 : isWord b <;> simp [h1, h2]

theorem get_list (s : ByteArray) {k : Nat} (h : k < s.size) : s.data.toList[k]? = some (s.data[k]'h) := by
  rw [Array.getElem?_toList]
  exact Array.getElem?_eq_getElem h
/-! ### CommonStart -/
def sameUpto (a b : ByteArray) (k : Nat) : Prop := ∀ i, i < k → ∃ c, a.data.toList[i]? = some c ∧ b.data.toList[i]? = some c
/-- how many letters two lists have in common at the start -/
def startLen : List UInt8 → List UInt8 → Nat
  | x :: a, y :: b => if x = y then startLen a b + 1 else 0
  | _, _ => 0
theorem startLen_eq : ∀ (a b : List UInt8) (k : Nat), (∀ i, i < k → ∃ c, a[i]? = some c ∧ b[i]? = some c) → (a[k]? = none ∨ b[k]? = none ∨ a[k]? ≠ b[k]?) → startLen a b = k
  | [], b, k, h, _ => by
    cases k with
    | zero => simp [startLen]
    | succ k => obtain ⟨c, h1, _⟩ := h 0 (by omega); simp at h1
  | x :: a, [], k, h, _ => by
    cases k with
    | zero => simp [startLen]
    | succ k => obtain ⟨c, _, h1⟩ := h 0 (by omega); simp at h1
  | x :: a, y :: b, 0, _, h => by
    simp at h
    simp [startLen, h]
  | x :: a, y :: b, k + 1, h, h' => by
    obtain ⟨c, h1, h2⟩ := h 0 (by omega)
    simp at h1 h2
    have e : x = y := h1.trans h2.symm
    unfold startLen
    rw [if_pos e, startLen_eq a b k (fun i hi => by simpa using h (i + 1) (by omega)) (by simpa using h')]
theorem startLen_le : ∀ (a b : List UInt8), startLen a b ≤ a.length
  | [], _ => by simp [startLen]
  | _ :: _, [] => by simp [startLen]
  | x :: a, y :: b => by
    unfold startLen
    have := startLen_le a b
    split <;> simp <;> omega
def comStart (a b : ByteArray) : Nat := startLen a.data.toList b.data.toList
theorem comStart_le (a b : ByteArray) : comStart a b ≤ a.size := by
  have := startLen_le a.data.toList b.data.toList
  simpa [comStart] using this
theorem com_succ {a b : ByteArray} {k : Nat} (h : sameUpto a b k) (ha : k < a.size) (hb : k < b.size) (e : a[k] = b[k]) : sameUpto a b (k + 1) := fun i hi => by
  by_cases hik : i = k
  · subst hik
    have e' : a.data[i]'ha = b.data[i]'hb := e
    exact ⟨a.data[i]'ha, get_list a ha, by rw [e']; exact get_list b hb⟩
  · exact h i (by omega)
theorem com_end {a b : ByteArray} {k : Nat} (h : sameUpto a b k) (hne : a.size ≤ k ∨ b.size ≤ k ∨ ∃ (ha : k < a.size) (hb : k < b.size), a[k] ≠ b[k]) : comStart a b = k := by
  refine startLen_eq _ _ k h ?_
  rcases hne with h1 | h1 | ⟨ha, hb, hne⟩
  · left; rw [List.getElem?_eq_none]; simpa using h1
  · right; left; rw [List.getElem?_eq_none]; simpa using h1
  · right; right
    intro e
    apply hne
    have e1 : a.data.toList[k]? = some (a.data[k]'ha) := get_list a ha
    have e2 : b.data.toList[k]? = some (b.data[k]'hb) := get_list b hb
    rw [e1, e2] at e
    exact Option.some.inj e

def comText (a b : ByteArray) : ByteArray := if twoCode a b = 0 then a.extract 0 (comStart a b) else ⟨#[]⟩
theorem ret_str {p q : ByteArray} {x y : Value} (h : p = q) (hx : x = .string p) (hy : y = .string q) : x = y := by rw [hx, hy, h]

end Go.Proofs.YtpnbbhomkneflaaGreatDoor
namespace Go.Proofs.YtpnbbhomkneflaaGreatDoor
open Go.ChangeShapes Go.WideShapes Go.ChangeAt Go.RowKit

def lcsAt (x : UInt8) (b : List UInt8) (R nx : List Int) (k : Nat) : Int := if x = b.getD k 0 then R.getD k 0 + 1 else max (R.getD (k + 1) 0) (nx.getD k 0)
def lcsPart (x : UInt8) (b : List UInt8) (R : List Int) : Nat → List Int
  | 0 => [0]
  | k + 1 => lcsPart x b R k ++ [lcsAt x b R (lcsPart x b R k) k]
def lcsRow (a b : List UInt8) : Nat → List Int
  | 0 => List.replicate (b.length + 1) 0
  | i + 1 => lcsPart (a.getD i 0) b (lcsRow a b i) b.length
def lcs (a b : List UInt8) : Int := (lcsRow a b a.length).getD b.length 0
theorem lcsPart_len (x : UInt8) (b : List UInt8) (R : List Int) : ∀ k, (lcsPart x b R k).length = k + 1
  | 0 => rfl
  | k + 1 => by simp [lcsPart, lcsPart_len x b R k]
theorem lcsRow_len (a b : List UInt8) : ∀ i, (lcsRow a b i).length = b.length + 1
  | 0 => by simp [lcsRow]
  | i + 1 => by simp [lcsRow, lcsPart_len]
/-- all numbers of a row lie in a range -/
def inR (M : Int) (R : List Int) : Prop := ∀ k, 0 ≤ R.getD k 0 ∧ R.getD k 0 ≤ M
theorem inR_snoc {M : Int} {R : List Int} {x : Int} (h : inR M R) (h0 : 0 ≤ x) (h1 : x ≤ M) : inR M (R ++ [x]) := fun k => by
  rw [List.getD_eq_getElem?_getD, List.getElem?_append]
  split
  · rw [← List.getD_eq_getElem?_getD]; exact h k
  · by_cases e : k - R.length = 0
    · rw [e]; simpa using ⟨h0, h1⟩
    · rw [List.getElem?_eq_none (by simp; omega)]; simp; omega
theorem inR_mono {M N : Int} {R : List Int} (h : inR M R) (hMN : M ≤ N) : inR N R := fun k => ⟨(h k).1, Int.le_trans (h k).2 hMN⟩
theorem lcsAt_in {x : UInt8} {b : List UInt8} {M : Int} {R nx : List Int} (k : Nat) (hR : inR M R) (hn : inR (M + 1) nx) : 0 ≤ lcsAt x b R nx k ∧ lcsAt x b R nx k ≤ M + 1 := by
  have h1 := hR k; have h2 := hR (k + 1); have h3 := hn k
  unfold lcsAt
  split <;> omega
theorem lcsPart_in {x : UInt8} {b : List UInt8} {M : Int} {R : List Int} (hM : 0 ≤ M) (hR : inR M R) : ∀ k, inR (M + 1) (lcsPart x b R k)
  | 0 => fun k => by
    have : (lcsPart x b R 0).getD k 0 = 0 := by cases k <;> simp [lcsPart]
    rw [this]; omega
  | k + 1 => inR_snoc (lcsPart_in hM hR k) (lcsAt_in k hR (lcsPart_in hM hR k)).1 (lcsAt_in k hR (lcsPart_in hM hR k)).2
theorem lcsRow_in (a b : List UInt8) : ∀ i : Nat, inR i (lcsRow a b i)
  | 0 => fun k => by
    have : (lcsRow a b 0).getD k 0 = 0 := by
      unfold lcsRow
      rw [List.getD_eq_getElem?_getD, List.getElem?_replicate]
      split <;> rfl
    rw [this]; simp
  | i + 1 => by
    have := lcsPart_in (x := a.getD i 0) (b := b) (M := i) (by omega) (lcsRow_in a b i) b.length
    intro k
    have h := this k
    unfold lcsRow
    simpa using h

theorem getD_at (b : ByteArray) {j : Nat} (h : j < b.size) : b.data.toList.getD j 0 = b[j] := by
  rw [List.getD_eq_getElem?_getD, get_list b h]; rfl
theorem lcs_eq {L nx : List Int} {x : UInt8} {b : ByteArray} {j : Nat} {x0 m : Int} (h : L = nx ++ [if x = b.data.toList.getD j 0 then x0 else m]) (hj : j < b.size) (e : x = b[j]) : L = nx ++ [x0] := by
  rw [h, getD_at b hj, if_pos e]
theorem lcs_ne {L nx : List Int} {x : UInt8} {b : ByteArray} {j : Nat} {x0 m : Int} (h : L = nx ++ [if x = b.data.toList.getD j 0 then x0 else m]) (hj : j < b.size) (e : ¬ x = b[j]) : L = nx ++ [m] := by
  rw [h, getD_at b hj, if_neg e]
theorem lcs_row {a : ByteArray} (b : ByteArray) {k : Nat} {R : List Int} (hk : k < a.size) (h : lcsRow a.data.toList b.data.toList k = R) : lcsRow a.data.toList b.data.toList (k + 1) = lcsPart a[k] b.data.toList R b.size := by
  unfold lcsRow
  rw [getD_at a hk, h]
  rfl
theorem own_base {w : World} {base base' : Nat} {e : TypeId} {size : Nat} {v : Value} {n : Nat} {xs : List Value} (h : w.ownsRow base e size v n xs) (hb : base' ≤ base) : w.ownsRow base' e size v n xs := by
  refine ⟨h.1, ?_⟩
  rcases h.2 with h2 | ⟨g, cap, cur, h1, h2, h3⟩
  · exact .inl h2
  · exact .inr ⟨g, cap, cur, h1, Nat.le_trans hb h2, h3⟩
theorem own_zero (w : World) (n : Nat) (hn : n ≤ 1000000) : (w.alloc (.cells (madeCells #[Value.int .i64 0] (n + 1)) 2)).ownsRow w.heap.size 2 1 (.slice (some ⟨w.heap.size, 0, none⟩) (n + 1) (n + 1)) (n + 1) ((List.replicate (n + 1) (0 : Int)).map (Value.int .i64)) := by
  have h := World.ownsRow_lit (base := w.heap.size) (e := 2) (size := 1) w (madeCells #[Value.int .i64 0] (n + 1)) (n + 1) (Nat.le_refl _) (by unfold maxLen; omega) (by rw [size_madeCells]; omega)
  rw [toList_madeCells_one] at h
  rw [List.map_replicate]
  exact h
theorem isWord_size {s : ByteArray} (h : isWord s = true) : s.size ≤ 16 := by
  unfold isWord small at h
  simp at h
  omega
def lcsVal (a b : ByteArray) : Int := if twoCode a b = 0 then lcs a.data.toList b.data.toList else 0
theorem infoInt : (Tryz.prog.info? 2).map (fun i => (i.zero, i.size, i.bytes)) = some (some (.int .i64 0), 1, 8) := by kernel_rfl

/-- an owned row of integers, opened at two places -/
theorem own_int {w : World} {base n : Nat} {v : Value} {R : List Int} (h : w.ownsRow base 2 1 v n (R.map (Value.int .i64))) (hn : 0 < n) :
    ∃ g cap, v = .slice (some ⟨g, 0, none⟩) n cap ∧ base ≤ g ∧ g < w.heap.size ∧ n ≤ cap ∧ cap ≤ maxLen ∧ (∀ k, k < n → w.cell? ⟨g, k, none⟩ = some (.int .i64 (R.getD k 0))) ∧ (∀ k, w.frozen? ⟨g, k, none⟩ = false) := by
  obtain ⟨g, cap, rfl, hb, hlt⟩ := h.form hn
  refine ⟨g, cap, rfl, hb, hlt, ?_, ?_, fun k hk => ?_, fun k => h.frozenAt k⟩
  · rcases h.2 with ⟨h', _⟩ | ⟨_, _, _, h', _, _, h2, _⟩
    · cases h'
    · injection h' with _ _ h3; rw [h3]; exact h2
  · rcases h.2 with ⟨h', _⟩ | ⟨_, _, _, h', _, _, _, h2, _⟩
    · cases h'
    · injection h' with _ _ h3; rw [h3]; exact h2
  · have hl : R.length = n := by have := h.1; simpa using this
    rw [h.cellAt k (by omega), List.getElem?_map, List.getD_eq_getElem?_getD, List.getElem?_eq_getElem (by omega)]
    rfl

end Go.Proofs.YtpnbbhomkneflaaGreatDoor
namespace Go.Proofs.YtpnbbhomkneflaaGreatDoor

/-- a text cut at every occurrence of a byte -/
def cutAt (c : UInt8) : List UInt8 → List (List UInt8)
  | [] => [[]]
  | x :: l => if x = c then [] :: cutAt c l else match cutAt c l with
    | [] => [[x]]
    | p :: r => (x :: p) :: r

theorem cutAt_ne (c : UInt8) (l : List UInt8) : cutAt c l ≠ [] := by
  cases l with
  | nil => simp [cutAt]
  | cons x l => unfold cutAt; split; · simp
                · split <;> simp
theorem cutAt_none {c : UInt8} : ∀ {l : List UInt8}, (∀ x ∈ l, x ≠ c) → cutAt c l = [l]
  | [], _ => rfl
  | x :: l, h => by
    unfold cutAt
    rw [if_neg (h x (by simp)), cutAt_none (fun y hy => h y (by simp [hy]))]
theorem cutAt_app {c : UInt8} : ∀ {p : List UInt8} (r : List UInt8), (∀ x ∈ p, x ≠ c) → cutAt c (p ++ c :: r) = p :: cutAt c r
  | [], r, _ => by simp [cutAt]
  | x :: p, r, h => by
    rw [List.cons_append, cutAt, if_neg (h x (by simp)), cutAt_app r (fun y hy => h y (by simp [hy]))]

theorem index_one_cons (x c : UInt8) (l : List UInt8) : Lib.index (x :: l) [c] = if c = x then 0 else if Lib.index l [c] = -1 then -1 else Lib.index l [c] + 1 := by
  conv => lhs; unfold Lib.index
  by_cases h : c = x
  · subst h; simp [List.isPrefixOf]
  · have : [c].isPrefixOf (x :: l) = false := by simp [List.isPrefixOf, h]
    rw [this]
    simp [h]
theorem index_one_none (c : UInt8) : ∀ {l : List UInt8}, Lib.index l [c] = -1 → ∀ x ∈ l, x ≠ c
  | [], _, x, hx => by simp at hx
  | y :: l, h, x, hx => by
    rw [index_one_cons] at h
    have hge := Lib.index_ge l [c]
    split at h
    · omega
    · rename_i hy
      split at h
      · rename_i hl
        rcases List.mem_cons.1 hx with rfl | hx
        · exact fun e => hy e.symm
        · exact index_one_none c hl x hx
      · omega
theorem index_one_some (c : UInt8) : ∀ {l : List UInt8} {i : Nat}, Lib.index l [c] = i → ∃ p r, l = p ++ c :: r ∧ p.length = i ∧ ∀ x ∈ p, x ≠ c
  | [], i, h => by
    simp [Lib.index] at h
  | y :: l, i, h => by
    rw [index_one_cons] at h
    split at h
    · rename_i hy
      refine ⟨[], l, by rw [hy]; rfl, ?_, fun x hx => by simp at hx⟩
      simp; omega
    · rename_i hy
      split at h
      · omega
      · have hge := Lib.index_ge l [c]
        obtain ⟨j, hj⟩ : ∃ j : Nat, Lib.index l [c] = j := ⟨(Lib.index l [c]).toNat, by omega⟩
        obtain ⟨p, r, hl, hp, hx⟩ := index_one_some c hj
        refine ⟨y :: p, r, by rw [hl]; rfl, by simp; omega, fun x h' => ?_⟩
        rcases List.mem_cons.1 h' with rfl | h'
        · exact fun e => hy e.symm
        · exact hx x h'

theorem split_one (c : UInt8) : ∀ (n : Nat) (l : List UInt8), l.length ≤ n → Lib.splitK [c] 0 (Lib.count l [c]) l = cutAt c l
  | n, l, hn => by
    by_cases h : Lib.index l [c] = -1
    · rw [Lib.count_miss h, cutAt_none (index_one_none c h)]
      rfl
    · have hge := Lib.index_ge l [c]
      obtain ⟨i, hi⟩ : ∃ i : Nat, Lib.index l [c] = i := ⟨(Lib.index l [c]).toNat, by omega⟩
      obtain ⟨p, r, hl, hp, hx⟩ := index_one_some c hi
      rw [Lib.count_hit (by simp) hi, Nat.add_comm 1]
      unfold Lib.splitK
      have hd : l.drop (i + 1) = r := by rw [hl, ← hp]; simp
      have ht : l.take i = p := by rw [hl, ← hp]; simp
      rw [if_neg (by simp [hi]), hi, Int.toNat_natCast, Nat.add_zero]
      simp only [List.length_cons, List.length_nil, Nat.zero_add]
      rw [hd, ht]
      match n, hn with
      | 0, hn => rw [hl] at hn; simp at hn
      | n + 1, hn =>
        rw [split_one c n r (by rw [hl] at hn; simp at hn; omega), hl, cutAt_app r hx]

/-- the same over texts -/
def cutS (c : UInt8) (s : ByteArray) : List ByteArray := (cutAt c s.data.toList).map fun l => ⟨l.toArray⟩
theorem splitB_one (c : UInt8) (s : ByteArray) : Lib.splitB ⟨#[c]⟩ 0 (Lib.countB s ⟨#[c]⟩) s = cutS c s := by
  have h := Lib.splitB_data ⟨#[c]⟩ 0 (Lib.countB s ⟨#[c]⟩) s
  have e : (⟨#[c]⟩ : ByteArray).data.toList = [c] := rfl
  rw [e] at h
  unfold Lib.countB at h ⊢
  rw [e] at h ⊢
  rw [split_one c _ _ (Nat.le_refl _)] at h
  unfold cutS
  rw [← h, List.map_map]
  conv => lhs; rw [← List.map_id (Lib.splitB _ _ _ _)]
  rfl
theorem cutS_len (c : UInt8) (s : ByteArray) : Lib.countB s ⟨#[c]⟩ + 1 = (cutS c s).length := by
  rw [← splitB_one]
  exact (Lib.splitB_all ⟨#[c]⟩ (Nat.le_refl 1) 0 _ s rfl).symm
theorem cutAt_len (c : UInt8) : ∀ (l : List UInt8), (cutAt c l).length ≤ l.length + 1
  | [] => by simp [cutAt]
  | x :: l => by
    have := cutAt_len c l
    unfold cutAt
    split
    · simp; omega
    · split
      · simp
      · rename_i h; rw [h] at this; simp at this ⊢; omega
theorem cutAt_each (c : UInt8) : ∀ (l p : List UInt8), p ∈ cutAt c l → p.length ≤ l.length
  | [], p, h => by simp [cutAt] at h; simp [h]
  | x :: l, p, h => by
    unfold cutAt at h
    split at h
    · rcases List.mem_cons.1 h with rfl | h
      · simp
      · have := cutAt_each c l p h; simp; omega
    · split at h
      · simp at h; simp [h]
      · rename_i q r hq
        rcases List.mem_cons.1 h with rfl | h
        · have := cutAt_each c l q (by rw [hq]; simp); simp; omega
        · have := cutAt_each c l p (by rw [hq]; simp [h]); simp; omega
theorem cutS_each {c : UInt8} {s p : ByteArray} (h : p ∈ cutS c s) : p.size ≤ s.size := by
  unfold cutS at h
  obtain ⟨l, hl, rfl⟩ := List.mem_map.1 h
  have := cutAt_each c _ _ hl
  unfold ByteArray.size
  simpa using this
theorem cutS_size (c : UInt8) (s : ByteArray) : (cutS c s).length ≤ s.size + 1 := by
  have := cutAt_len c s.data.toList
  simpa [cutS] using this
end Go.Proofs.YtpnbbhomkneflaaGreatDoor
namespace Go.Proofs
open Go.Shelf
def Tryz.laysM219_ren : Go.Shelf.Ren := ⟨fun | 219 => 105 | 217 => 110 | 225 => 109 | 224 => 108 | 267 => 111 | 266 => 112 | 314 => 113 | n => n, fun | 9 => 9 | 3 => 3 | 4 => 4 | 5 => 5 | 46 => 86 | 146 => 129 | 51 => 128 | n => n, fun | 1 => 2 | n => n⟩
theorem Tryz.laysM219 : Go.Proofs.LaysM.n219 Tryz.prog Tryz.laysM219_ren := {
  mixed := by kernel_rfl
  f217 := Tryz.func110.trans (congrArg some (by kernel_rfl))
  f219 := Tryz.func105.trans (congrArg some (by kernel_rfl))
  f224 := Tryz.func108.trans (congrArg some (by kernel_rfl))
  f225 := Tryz.func109.trans (congrArg some (by kernel_rfl))
  f266 := Tryz.func112.trans (congrArg some (by kernel_rfl))
  f267 := Tryz.func111.trans (congrArg some (by kernel_rfl))
  f314 := Tryz.func113.trans (congrArg some (by kernel_rfl))
  t3 := Tryz.underlying3
  a3 := Tryz.isAgg3
  z3 := Tryz.sizeOf3
  v3 := Tryz.zeroValue3
  t4 := Tryz.underlying4
  a4 := Tryz.isAgg4
  z4 := Tryz.sizeOf4
  v4 := Tryz.zeroValue4
  t5 := Tryz.underlying5
  a5 := Tryz.isAgg5
  z5 := Tryz.sizeOf5
  v5 := Tryz.zeroValue5
  t9 := Tryz.underlying9
  a9 := Tryz.isAgg9
  z9 := Tryz.sizeOf9
  v9 := Tryz.zeroValue9
  t46 := Tryz.underlying86
  a46 := Tryz.isAgg86
  z46 := Tryz.sizeOf86
  v46 := Tryz.zeroValue86
  t51 := Tryz.underlying128
  a51 := Tryz.isAgg128
  z51 := Tryz.sizeOf128
  v51 := Tryz.zeroValue128
  t146 := Tryz.underlying129
  a146 := Tryz.isAgg129
  z146 := Tryz.sizeOf129
  v146 := Tryz.zeroValue129
  g1 := by kernel_rfl
  i3 := by kernel_rfl
  i4 := by kernel_rfl
  i5 := by kernel_rfl
  i9 := by kernel_rfl
  i46 := by kernel_rfl
  i51 := by kernel_rfl
  i146 := by kernel_rfl
  m1 := by kernel_rfl
  s1_3 := fun w h => Go.Proofs.cell_of_shapedOpen_int (zero := #[.int .i64 0]) (t := 3) h (of_decide_eq_true (by kernel_rfl)) (by kernel_rfl) rfl (by kernel_rfl) (by kernel_rfl) Tryz.underlying3 }
open Go.RowKit Go.Lib in
theorem Tryz.stringslite_Index_shaped (s sub : ByteArray) (w : World) (h : w.ShapedOpen Tryz.prog) (hs : s.size < 4294967281) :
    Calls Tryz.prog 105 #[.string s, .string sub] w fun e w' => e = .returned (.int .i64 (Lib.index s.data.toList sub.data.toList)) ∧ w' = w := Any.stringslite_Index_shaped Tryz.laysM219 s sub w h hs
def Tryz.lays146_ren : Go.Shelf.Ren := ⟨fun | 146 => 77 | 221 => 90 | 268 => 97 | 138 => 98 | 143 => 99 | 195 => 103 | 197 => 94 | 218 => 104 | 219 => 105 | 260 => 100 | 217 => 110 | 225 => 109 | 224 => 108 | 267 => 111 | 266 => 112 | 314 => 113 | n => n, fun | 9 => 9 | 31 => 24 | 3 => 3 | 4 => 4 | 0 => 0 | 105 => 115 | 21 => 21 | 5 => 5 | 46 => 86 | 119 => 122 | 139 => 125 | 138 => 124 | 146 => 129 | 51 => 128 | n => n, fun | 1 => 2 | 3 => 0 | 4 => 1 | n => n⟩
theorem Tryz.lays146 : Go.Proofs.Lays.n146 Tryz.prog Tryz.lays146_ren := {
  mixed := by kernel_rfl
  f138 := Tryz.func98.trans (congrArg some (by kernel_rfl))
  f143 := Tryz.func99.trans (congrArg some (by kernel_rfl))
  f146 := Tryz.func77.trans (congrArg some (by kernel_rfl))
  f195 := Tryz.func103.trans (congrArg some (by kernel_rfl))
  f197 := Tryz.func94.trans (congrArg some (by kernel_rfl))
  f217 := Tryz.func110.trans (congrArg some (by kernel_rfl))
  f218 := Tryz.func104.trans (congrArg some (by kernel_rfl))
  f219 := Tryz.func105.trans (congrArg some (by kernel_rfl))
  f221 := Tryz.func90.trans (congrArg some (by kernel_rfl))
  f224 := Tryz.func108.trans (congrArg some (by kernel_rfl))
  f225 := Tryz.func109.trans (congrArg some (by kernel_rfl))
  f260 := Tryz.func100.trans (congrArg some (by kernel_rfl))
  f266 := Tryz.func112.trans (congrArg some (by kernel_rfl))
  f267 := Tryz.func111.trans (congrArg some (by kernel_rfl))
  f268 := Tryz.func97.trans (congrArg some (by kernel_rfl))
  f314 := Tryz.func113.trans (congrArg some (by kernel_rfl))
  t0 := Tryz.underlying0
  a0 := Tryz.isAgg0
  z0 := Tryz.sizeOf0
  v0 := Tryz.zeroValue0
  t3 := Tryz.underlying3
  a3 := Tryz.isAgg3
  z3 := Tryz.sizeOf3
  v3 := Tryz.zeroValue3
  t4 := Tryz.underlying4
  a4 := Tryz.isAgg4
  z4 := Tryz.sizeOf4
  v4 := Tryz.zeroValue4
  t5 := Tryz.underlying5
  a5 := Tryz.isAgg5
  z5 := Tryz.sizeOf5
  v5 := Tryz.zeroValue5
  t9 := Tryz.underlying9
  a9 := Tryz.isAgg9
  z9 := Tryz.sizeOf9
  v9 := Tryz.zeroValue9
  t21 := Tryz.underlying21
  a21 := Tryz.isAgg21
  z21 := Tryz.sizeOf21
  v21 := Tryz.zeroValue21
  t31 := Tryz.underlying24
  a31 := Tryz.isAgg24
  z31 := Tryz.sizeOf24
  v31 := Tryz.zeroValue24
  t46 := Tryz.underlying86
  a46 := Tryz.isAgg86
  z46 := Tryz.sizeOf86
  v46 := Tryz.zeroValue86
  t51 := Tryz.underlying128
  a51 := Tryz.isAgg128
  z51 := Tryz.sizeOf128
  v51 := Tryz.zeroValue128
  t105 := Tryz.underlying115
  a105 := Tryz.isAgg115
  z105 := Tryz.sizeOf115
  v105 := Tryz.zeroValue115
  t119 := Tryz.underlying122
  a119 := Tryz.isAgg122
  z119 := Tryz.sizeOf122
  t138 := Tryz.underlying124
  a138 := Tryz.isAgg124
  z138 := Tryz.sizeOf124
  v138 := Tryz.zeroValue124
  t139 := Tryz.underlying125
  a139 := Tryz.isAgg125
  z139 := Tryz.sizeOf125
  v139 := Tryz.zeroValue125
  t146 := Tryz.underlying129
  a146 := Tryz.isAgg129
  z146 := Tryz.sizeOf129
  v146 := Tryz.zeroValue129
  g1 := by kernel_rfl
  g3 := by kernel_rfl
  g4 := by kernel_rfl }
open Go.RowKit Go.Lib in
/-- strings.Split. (LAID: no walk: one application.) -/
theorem Tryz.strings_Split (s sep : ByteArray) (m : Int) (w : World) (hs : s.size < 4294967281) (hm : w.cell? ⟨2, 0, none⟩ = some (.int .i64 m)) (h1 : 1 ≤ sep.size) :
    Calls Tryz.prog 77 #[.string s, .string sep] w fun e w' =>
      e = .returned (.slice (some ⟨w.heap.size, 0, none⟩) (Lib.countB s sep + 1) (Lib.countB s sep + 1)) ∧ w' = w.alloc (.cells ((Lib.splitB sep 0 (Lib.countB s sep) s).map Value.string).toArray 9) := Any.strings_Split Tryz.lays146 (by kernel_rfl) s sep m w hs hm h1
end Go.Proofs
namespace Go.Proofs.YtpnbbhomkneflaaGreatDoor
open Go.ChangeShapes Go.WideShapes Go.ChangeAt Go.RowKit

/-- the cell that the shelf's search for a byte reads -/
def MaxCell (w : World) : Prop := ∃ m, w.cell? ⟨2, 0, none⟩ = some (.int .i64 m)
theorem MaxCell.below {w w' : World} (h : MaxCell w) (hb : Below w.heap.size w w') : MaxCell w' := by
  obtain ⟨m, hm⟩ := h
  exact ⟨m, cell_keep hb hm⟩

theorem strs_alloc (w : World) (L : List ByteArray) (t : TypeId) (hl : L.length ≤ maxLen) (hs : ∀ x ∈ L, x.size ≤ maxLen) :
    Strs (w.alloc (.cells (L.map Value.string).toArray t)) (some ⟨w.heap.size, 0, none⟩) L.length L.length L :=
  ⟨rfl, ⟨Nat.le_refl _, hl, by simp, fun _ => ⟨w.heap.size, 0, rfl, by simp, fun j u hu => by
    rw [Nat.zero_add]
    go_simp⟩⟩, hs⟩

theorem wordsOf_any (s : ByteArray) (w : World) (hs : s.size ≤ 1048576) (hm : MaxCell w) :
    Calls Tryz.prog 64 #[.string s] w fun e w' => e = .returned (.slice (some ⟨w.heap.size, 0, none⟩) (cutS 32 s).length (cutS 32 s).length) ∧ w' = w.alloc (.cells ((cutS 32 s).map Value.string).toArray 9) := by
  obtain ⟨m, hm⟩ := hm
  have h := Tryz.strings_Split s ⟨#[32]⟩ m w (by omega) hm (Nat.le_refl 1)
  rw [splitB_one, cutS_len] at h
  go_enter Tryz.func64, Tryz.ntmps64
  have H := Lib.hid h
  clear h
  go_wp2_with fail
  refine H.out.mono ?_
  rintro e_ w1 ⟨rfl, rfl⟩
  go_wp2
  go_ret
  exact ⟨rfl, rfl⟩

/-- the pieces up to a place, and where the open one began -/
def Cut (c : UInt8) (s : ByteArray) (P : List ByteArray) (fr i : Nat) : Prop :=
  (i = s.size + 1 ∧ P = cutS c s) ∨
  (fr ≤ i ∧ i ≤ s.size ∧ P.length ≤ i ∧ cutS c s = P ++ (cutAt c (s.data.toList.drop fr)).map (fun l => ⟨l.toArray⟩) ∧ ∀ x ∈ (s.data.toList.take i).drop fr, x ≠ c)
theorem cut_start (c : UInt8) (s : ByteArray) : Cut c s [] 0 0 := .inr ⟨Nat.le_refl _, Nat.zero_le _, Nat.le_refl _, rfl, by simp⟩
theorem ext_list (s : ByteArray) (fr i : Nat) : (⟨((s.data.toList.take i).drop fr).toArray⟩ : ByteArray) = s.extract fr i := by
  apply ByteArray.ext
  rw [ByteArray.data_extract]
  apply Array.ext'
  simp [List.drop_take]
theorem cut_skip {c : UInt8} {s : ByteArray} {P : List ByteArray} {fr i : Nat} (h : Cut c s P fr i) (hi : i < s.size) (hc : s[i] ≠ c) : Cut c s P fr (i + 1) := by
  rcases h with ⟨h, _⟩ | ⟨h1, h2, h3, h4, h5⟩
  · omega
  · refine .inr ⟨by omega, by omega, by omega, h4, fun x hx => ?_⟩
    rw [List.take_add_one, List.drop_append_of_le_length (by simp; omega), get_list s hi] at hx
    rcases List.mem_append.1 hx with hx | hx
    · exact h5 x hx
    · simp at hx; subst hx; exact hc
theorem cut_at {c : UInt8} {s : ByteArray} {P : List ByteArray} {fr i : Nat} (h : Cut c s P fr i) (hi : i < s.size) (hc : s[i] = c) : Cut c s (P ++ [s.extract fr i]) (i + 1) (i + 1) := by
  rcases h with ⟨h, _⟩ | ⟨h1, h2, h3, h4, h5⟩
  · omega
  · have e : s.data.toList.drop fr = (s.data.toList.take i).drop fr ++ c :: s.data.toList.drop (i + 1) := by
      have hl : i < s.data.toList.length := by simpa using hi
      have hg : s.data.toList[i] = c := hc
      rw [← hg, ← List.drop_eq_getElem_cons hl, ← List.drop_append_of_le_length (by simp; omega), List.take_append_drop]
    refine .inr ⟨Nat.le_refl _, by omega, by simp; omega, ?_, fun x hx => ?_⟩
    · rw [h4, e, cutAt_app _ h5, List.map_cons, ext_list]; simp
    · rw [List.drop_eq_nil_of_le (by simp; omega)] at hx; simp at hx
theorem cut_last {c : UInt8} {s : ByteArray} {P : List ByteArray} {fr : Nat} (h : Cut c s P fr s.size) (k : Nat) : Cut c s (P ++ [s.extract fr s.size]) k (s.size + 1) := by
  rcases h with ⟨h, _⟩ | ⟨h1, h2, h3, h4, h5⟩
  · omega
  · refine .inl ⟨rfl, ?_⟩
    have e : (s.data.toList.take s.size) = s.data.toList := List.take_of_length_le (by simp)
    have hx := ext_list s fr s.size
    rw [e] at h5 hx
    rw [h4, cutAt_none h5, List.map_cons, hx]
    rfl
theorem cut_done {c : UInt8} {s : ByteArray} {P : List ByteArray} {fr i : Nat} (h : Cut c s P fr i) (hi : s.size < i) : i = s.size + 1 ∧ P = cutS c s := by
  rcases h with h | ⟨h1, h2, h3, h4, h5⟩
  · exact h
  · omega
theorem cut_le {c : UInt8} {s : ByteArray} {P : List ByteArray} {fr i : Nat} (h : Cut c s P fr i) (hi : i ≤ s.size) : fr ≤ i ∧ P.length ≤ i := by
  rcases h with h | ⟨h1, h2, h3, h4, h5⟩
  · omega
  · exact ⟨h1, h3⟩

theorem infoStr : (Tryz.prog.info? 9).map (fun i => (i.zero, i.size, i.bytes)) = some (some (.string ⟨#[]⟩), 1, 16) := by kernel_rfl

set_option maxRecDepth 100000 in
set_option maxHeartbeats 4000000 in
theorem l01Split_any (c : UInt8) (s : ByteArray) (w : World) (hs : s.size ≤ 1048576) :
    Calls Tryz.prog 72 #[.string s, .int .u8 c.toNat] w fun e w' => ∃ v, e = .returned v ∧ w'.ownsRow w.heap.size 9 1 v (cutS c s).length ((cutS c s).map Value.string) ∧ Below w.heap.size w w' := by
  obtain ⟨i0, hi, hz0, hz1, hz2⟩ := info_parts infoStr
  go_enter Tryz.func72, Tryz.ntmps72
  go_wp2
  go_loopw [5, 6, 7] (fun rv f i wr => ∃ (k fr : Nat) (P : List ByteArray), k ≤ s.size + 1 ∧ i = .int .i64 k ∧ f = .int .i64 fr ∧ Hid (Cut c s P fr k) ∧ Hid (wr.ownsRow w.heap.size 9 1 rv P.length (P.map Value.string)) ∧ Below w.heap.size w wr) (fun _ _ i _ => s.size + 1 - (intOf i).toNat)
  case atStart => exact ⟨0, 0, [], Nat.zero_le _, rfl, rfl, cut_start c s, World.ownsRow_lit w #[] 0 (Nat.le_refl _) (by unfold maxLen; omega) rfl, (Below.refl _ _).alloc (Nat.le_refl _) _⟩
  case round =>
    obtain ⟨k, fr, P, hk, rfl, rfl, hcut, hown, hb0⟩ := hrel
    have hz3 := hb0.size
    by_cases hk1 : k ≤ s.size
    · have hcl := cut_le hcut.out hk1
      by_cases hlt : k < s.size
      · by_cases hc : s[k] = c
        · have HC := Lib.hid (cut_at hcut.out hlt hc)
          have hq : ((s[k].toNat : Int) == (c.toNat : Int)) = true := by rw [hc]; simp
          clear hc
          go_wp2_with (at_builtin; refine wpList_append_own _ rfl _ _ 24 rfl w.heap.size 9 i0 (.string ⟨#[]⟩) 1 16 Tryz.underlying24 hi hz0 hz1 hz2 rfl (by decide) _ _ _ rfl (hown.out.alloc _) ⟨wr.heap.size, 0, none⟩ 1 1 [.string (s.extract fr k)] rfl rfl ?c1 ?c2 ?c3 ?c4 ?c5 ?_)
          case c1 => exact cell_one_new _ _ _
          case c2 => simp [Value.oneCell']
          case c3 => unfold maxLen; omega
          case c4 => omega
          case c5 => simp; omega
          intro v4 w4 hown4 hgrow _
          have HO : Hid (w4.ownsRow w.heap.size 9 1 v4 (P ++ [s.extract fr k]).length ((P ++ [s.extract fr k]).map Value.string)) := by rw [List.length_append, List.map_append]; exact hown4
          have HB : Hid (Below w.heap.size w w4) := (hb0.alloc hz3 _).grown hgrow (by simp; omega) (fun q hq => (hown.out.lt q hq).1)
          clear hown4 hgrow hown
          go_wp2
          go_roundw
          case rel => exact ⟨k + 1, k + 1, _, by omega, by go_num, by go_num, HC.out, HO, HB.out⟩
          case measure => simp [intOf]; omega
        · have HC := Lib.hid (cut_skip hcut.out hlt hc)
          have hq : ((s[k].toNat : Int) == (c.toNat : Int)) = false := by
            rw [beq_eq_false_iff_ne]
            intro e
            exact hc (UInt8.toNat_inj.1 (by omega))
          clear hc
          go_wp2
          go_roundw
          case rel => exact ⟨k + 1, fr, P, by omega, by go_num, rfl, HC.out, hown, hb0⟩
          case measure => simp [intOf]; omega
      · obtain rfl : k = s.size := by omega
        have HC := Lib.hid (cut_last hcut.out (s.size + 1))
        go_wp2_with (at_builtin; refine wpList_append_own _ rfl _ _ 24 rfl w.heap.size 9 i0 (.string ⟨#[]⟩) 1 16 Tryz.underlying24 hi hz0 hz1 hz2 rfl (by decide) _ _ _ rfl (hown.out.alloc _) ⟨wr.heap.size, 0, none⟩ 1 1 [.string (s.extract fr s.size)] rfl rfl ?c1 ?c2 ?c3 ?c4 ?c5 ?_)
        case c1 => exact cell_one_new _ _ _
        case c2 => simp [Value.oneCell']
        case c3 => unfold maxLen; omega
        case c4 => omega
        case c5 => simp; omega
        intro v4 w4 hown4 hgrow _
        have HO : Hid (w4.ownsRow w.heap.size 9 1 v4 (P ++ [s.extract fr s.size]).length ((P ++ [s.extract fr s.size]).map Value.string)) := by rw [List.length_append, List.map_append]; exact hown4
        have HB : Hid (Below w.heap.size w w4) := (hb0.alloc hz3 _).grown hgrow (by simp; omega) (fun q hq => (hown.out.lt q hq).1)
        clear hown4 hgrow hown
        go_wp2
        go_roundw
        case rel => exact ⟨s.size + 1, s.size + 1, _, by omega, by go_num, by go_num, HC.out, HO, HB.out⟩
        case measure => simp [intOf]
    · obtain ⟨hkE, hP⟩ := cut_done hcut.out (by omega)
      have HO := hown.out
      rw [hP] at HO
      have HO := Lib.hid HO
      clear hP hown hcut
      go_wp2
      go_ret
      exact ⟨_, rfl, HO.out, hb0⟩


theorem own_strs {w : World} {base : Nat} {e : TypeId} {v : Value} {xs : List ByteArray} (h : w.ownsRow base e 1 v xs.length (xs.map Value.string)) (hs : ∀ x ∈ xs, x.size ≤ maxLen) :
    ∃ A c, v = .slice A xs.length c ∧ Strs w A xs.length c xs := by
  rcases h.2 with ⟨hv, hn⟩ | ⟨g, cap, cur, hv, _⟩
  · subst hv
    rw [← hn] at h ⊢
    exact ⟨none, _, rfl, rfl, Reads.of_own h, hs⟩
  · subst hv
    exact ⟨_, _, rfl, rfl, Reads.of_own h, hs⟩
def isPhrase (s : ByteArray) : Bool := (cutS 32 s).all isWord && decide ((cutS 32 s).length ≤ 8)
theorem cut_max {s : ByteArray} (hs : s.size ≤ 1048576) : (cutS 32 s).length ≤ maxLen ∧ ∀ x ∈ cutS 32 s, x.size ≤ maxLen := by
  unfold maxLen
  refine ⟨?_, fun x hx => ?_⟩
  · have := cutS_size 32 s; omega
  · have := cutS_each hx; omega

set_option maxRecDepth 100000 in
set_option maxHeartbeats 4000000 in
theorem l01Phrase_any (s : ByteArray) (w : World) (hs : s.size ≤ 1048576) :
    Calls Tryz.prog 50 #[.string s] w fun e w' => ∃ v, e = .returned (.tuple #[v, .bool (isPhrase s)]) ∧ (isPhrase s = true → w'.ownsRow w.heap.size 9 1 v (cutS 32 s).length ((cutS 32 s).map Value.string)) ∧ Below w.heap.size w w' := by
  have hsp := Lib.hid (l01Split_any 32 s w hs)
  have hmx := cut_max hs
  have hcs := cutS_size 32 s
  go_enter Tryz.func50, Tryz.ntmps50
  go_wp2_with fail
  refine hsp.out.mono ?_
  rintro e_ w1 ⟨v, rfl, hown, hb1⟩
  obtain ⟨L, hL⟩ : ∃ L, L = cutS 32 s := ⟨_, rfl⟩
  have HP := Lib.hid (show isPhrase s = (L.all isWord && decide (L.length ≤ 8)) by rw [hL]; rfl)
  rw [← hL] at hown hmx hcs
  obtain ⟨A, c, rfl, hx⟩ := own_strs hown hmx.2
  have HW := Lib.hid hown
  have hnc := hx.2.1.le
  have hcm := hx.2.1.cap
  unfold maxLen at hcm
  have HLL := Lib.hid hL
  clear hown hL hsp
  go_wp2
  go_loopw [5] (fun i wr => ∃ k : Nat, k ≤ L.length ∧ i = .int .i64 k ∧ Hid ((L.take k).all isWord = true) ∧ Below w1.heap.size w1 wr) (fun i _ => L.length - (intOf i).toNat)
  case atStart => exact ⟨0, Nat.zero_le _, rfl, by simp [Hid], Below.refl _ _⟩
  case round =>
    obtain ⟨k, hk, rfl, hup, hb⟩ := hrel
    by_cases hlt : k < L.length
    · obtain ⟨b, off, rfl, hbl⟩ := hx.at_ k hlt
      obtain ⟨t, ht, c0, hsz⟩ := hx.el hb hbl k hlt
      cases hw : isWord t
      · go_wp2_with fail
        refine (IsWord_spec t _ hsz).mono ?_
        rintro e_ w2 ⟨rfl, h2⟩
        have hc_w2 := bcell h2; have hf_w2 := bfree h2
        have HF := Lib.hid (show isPhrase s = false by rw [HP.out, all_not ht hw, Bool.false_and])
        go_wp2
        go_ret2
        exact ⟨_, by rw [HF.out]; rfl, by rw [HF.out]; simp, next hb1 (next hb h2)⟩
      · go_wp2_with fail
        refine (IsWord_spec t _ hsz).mono ?_
        rintro e_ w2 ⟨rfl, h2⟩
        have hc_w2 := bcell h2; have hf_w2 := bfree h2
        have HU := Lib.hid (all_at ht hup.out hw)
        clear hup
        go_wp2
        go_roundw
        case rel => exact ⟨k + 1, by omega, by go_num, HU, next hb h2⟩
        case measure => simp [intOf]; omega
    · have HF := Lib.hid (show isPhrase s = decide (L.length ≤ 8) by rw [HP.out, all_done rfl (by omega) hup.out, Bool.true_and])
      clear hup
      go_wp2
      go_ret2
      exact ⟨_, by rw [HF.out, show decide (L.length ≤ 8) = decide ((L.length : Int) ≤ 8) from decide_eq_decide.2 (by omega)]; rfl, fun _ => by rw [← HLL.out]; exact own_below HW.out hb, next hb1 hb⟩


set_option maxHeartbeats 400000 in
theorem IsPhrase_spec (s : ByteArray) (w : World) (hs : s.size ≤ 1048576) :
    Calls Tryz.prog 48 #[.string s] w fun e w' => e = .returned (.bool (isPhrase s)) ∧ Below w.heap.size w w' := by
  have H := Lib.hid (l01Phrase_any s w hs)
  go_enter Tryz.func48, Tryz.ntmps48
  go_wp2_with fail
  refine H.out.mono ?_
  rintro e_ w1 ⟨v, rfl, _, hb1⟩
  go_wp2
  go_ret
  exact ⟨rfl, hb1⟩

set_option maxHeartbeats 400000 in
theorem IsPhrase_impl (s : ByteArray) (w : World) (hs : s.size ≤ 1048576) (hm : MaxCell w) :
    Calls Tryz.prog 63 #[.string s] w fun e w' => e = .returned (.bool (isPhrase s)) ∧ Below w.heap.size w w' := by
  have H := Lib.hid (wordsOf_any s w hs hm)
  have hmx := cut_max hs
  have hcs := cutS_size 32 s
  have HX := Lib.hid (strs_alloc w (cutS 32 s) 9 hmx.1 hmx.2)
  have HB := Lib.hid ((Below.refl w.heap.size w).alloc (Nat.le_refl _) (.cells ((cutS 32 s).map Value.string).toArray 9))
  have HP := Lib.hid (show isPhrase s = ((cutS 32 s).all isWord && decide ((cutS 32 s).length ≤ 8)) from rfl)
  generalize cutS 32 s = L at *
  generalize w.alloc (.cells (L.map Value.string).toArray 9) = w1 at *
  by_cases h8 : L.length ≤ 8
  · have HF := Lib.hid (show isPhrase s = L.all isWord by rw [HP.out]; simp [h8])
    go_enter Tryz.func63, Tryz.ntmps63
    go_wp2_with fail
    refine H.out.mono ?_
    rintro e_ w1 ⟨rfl, rfl⟩
    go_wp2_with fail
    refine (areWords_any _ _ _ _ _ HX.out).mono ?_
    rintro e_ w2 ⟨rfl, h2⟩
    go_wp2
    go_ret
    exact ⟨by rw [HF.out]; rfl, next HB.out h2⟩
  · have HF := Lib.hid (show isPhrase s = false by rw [HP.out]; simp [h8])
    go_enter Tryz.func63, Tryz.ntmps63
    go_wp2_with fail
    refine H.out.mono ?_
    rintro e_ w1 ⟨rfl, rfl⟩
    go_wp2
    go_ret
    exact ⟨by rw [HF.out]; rfl, HB.out⟩

/-- WordsOf's code, and its words -/
def phCode (s : ByteArray) : Int := if isPhrase s = true then 0 else 1
def phWords (s : ByteArray) : List ByteArray := if isPhrase s = true then cutS 32 s else []
theorem ph_cases (s : ByteArray) : (isPhrase s = true ∧ Hid (phCode s = 0 ∧ phWords s = cutS 32 s)) ∨ (isPhrase s = false ∧ Hid (phCode s = 1 ∧ phWords s = [])) := by
  unfold phCode phWords Hid
  cases isPhrase s <;> simp

end Go.Proofs.YtpnbbhomkneflaaGreatDoor
namespace Go.Proofs.YtpnbbhomkneflaaGreatDoor
open Go.ChangeShapes Go.WideShapes Go.ChangeAt Go.RowKit

theorem text_ne {s t : ByteArray} (h : ¬ s = t) : (s.toList == t.toList) = false := by
  rw [beq_eq_false_iff_ne, ByteArray.toList_eq, ByteArray.toList_eq]
  intro e
  exact h (ByteArray.ext (Array.toList_inj.1 e))
def digs : Nat → Nat → List UInt8 → List UInt8
  | 0, _, acc => acc
  | f + 1, n, acc => if n = 0 then acc else digs f (n / 10) (UInt8.ofNat (48 + n % 10) :: acc)
theorem digs_more : ∀ (f g n : Nat) (acc : List UInt8), n ≤ f → n ≤ g → digs f n acc = digs g n acc
  | 0, g, n, acc, hf, _ => by
    obtain rfl : n = 0 := by omega
    cases g <;> simp [digs]
  | f + 1, 0, n, acc, _, hg => by
    obtain rfl : n = 0 := by omega
    simp [digs]
  | f + 1, g + 1, n, acc, hf, hg => by
    unfold digs
    split
    · rfl
    · exact digs_more f g _ _ (by omega) (by omega)
def digits (n : Nat) (acc : List UInt8) : List UInt8 := digs n n acc
theorem digits_zero (acc : List UInt8) : digits 0 acc = acc := rfl
theorem digits_step {n : Nat} (acc : List UInt8) (h : 0 < n) : digits n acc = digits (n / 10) (UInt8.ofNat (48 + n % 10) :: acc) := by
  unfold digits
  cases n with
  | zero => omega
  | succ n =>
    conv => lhs; unfold digs
    rw [if_neg (by omega), digs_more n ((n + 1) / 10) _ _ (by omega) (Nat.le_refl _)]
/-- the mark of a number that is greater than 0 -/
def markT (k : Nat) : ByteArray := ⟨#[109]⟩ ++ ⟨(digits k []).toArray⟩

theorem digs_len : ∀ (f n : Nat) (acc : List UInt8), n ≤ f → (digs f n acc).length ≤ acc.length + n
  | 0, n, acc, h => by simp [digs]
  | f + 1, n, acc, h => by
    unfold digs
    split
    · omega
    · have := digs_len f (n / 10) (UInt8.ofNat (48 + n % 10) :: acc) (by omega)
      rw [List.length_cons] at this
      omega
theorem markT_size (k : Nat) : (markT k).size ≤ k + 1 := by
  have := digs_len k k [] (Nat.le_refl _)
  unfold markT digits
  have h1 : (ByteArray.mk (digs k k []).toArray).size = (digs k k []).length := by simp [ByteArray.size]
  have h2 : (ByteArray.mk #[109]).size = 1 := rfl
  rw [ByteArray.size_append, h1, h2]
  simp at this
  omega
theorem conv_one (W : World) (d : Int) (h0 : 0 ≤ d) (hd : d < 10) :
    (convert 22 9 (.slice (some ⟨W.heap.size, 0, none⟩) 1 1)).run Tryz.prog (W.alloc (.cells #[.int .u8 (48 + d)] 5)) = .ok (.string ⟨#[UInt8.ofNat (48 + d.toNat)]⟩) (W.alloc (.cells #[.int .u8 (48 + d)] 5)) := by
  have h := run_convert_bytes_back (P := Tryz.prog) (W.alloc (.cells #[.int .u8 (48 + d)] 5)) 22 9 5 ⟨W.heap.size, 0, none⟩ 1 [UInt8.ofNat (48 + d.toNat)] Tryz.underlying22 Tryz.underlying5 Tryz.underlying9 ?_
  · simpa using h
  · intro j hj
    have : j = 0 := by simpa using hj
    subst this
    have e : ((UInt8.ofNat (48 + d.toNat)).toNat : Int) = 48 + d := by
      rw [UInt8.toNat_ofNat']; omega
    simp only [List.getElem_cons_zero, e]
    go_simp
theorem cat_one (n : Nat) (acc : List UInt8) : ByteArray.mk #[48 + UInt8.ofNat n] ++ ByteArray.mk acc.toArray = ByteArray.mk (UInt8.ofNat (48 + n) :: acc).toArray := by
  apply ByteArray.ext
  simp [ByteArray.data_append, UInt8.ofNat_add]
def marks (k n : Nat) : List ByteArray := (List.range n).map fun i => markT (k + i)
theorem marks_len (k n : Nat) : (marks k n).length = n := by simp [marks]
theorem marks_at (k n i : Nat) (h : i < n) : (marks k n)[i]? = some (markT (k + i)) := by
  unfold marks
  rw [List.getElem?_map, List.getElem?_range h]; rfl

theorem marks_max {k n : Nat} (h : k + n ≤ 1000000000000) : ∀ x ∈ marks k n, x.size ≤ maxLen := by
  intro x hx
  unfold marks at hx
  obtain ⟨i, hi, rfl⟩ := List.mem_map.1 hx
  have := markT_size (k + i)
  have := List.mem_range.1 hi
  unfold maxLen
  omega
theorem own_reads {w : World} {base : Nat} {e : TypeId} {A : Option Addr} {n c : Nat} {xs : List ByteArray} (h : w.ownsRow base e 1 (.slice A n c) n (xs.map Value.string)) (hs : ∀ x ∈ xs, x.size ≤ maxLen) : Strs w A n c xs :=
  ⟨by have := h.1; simpa using this.symm, Reads.of_own h, hs⟩
end Go.Proofs.YtpnbbhomkneflaaGreatDoor
namespace Go.Proofs.YtpnbbhomkneflaaGreatDoor
open Go.ChangeShapes Go.WideShapes Go.ChangeAt Go.RowKit

def bytesOf (xs : List ByteArray) : List (List UInt8) := xs.map (·.data.toList)
def joined (xs : List ByteArray) : ByteArray := ⟨(Lib.join (bytesOf xs) [32]).toArray⟩
def total (xs : List ByteArray) : Nat := (xs.map ByteArray.size).sum
theorem joined_nil : joined [] = ⟨#[]⟩ := rfl
theorem joined_one (x : ByteArray) : joined [x] = x := by
  unfold joined bytesOf
  rw [List.map_cons, List.map_nil, Lib.join_one]
theorem join_snoc (xs : List (List UInt8)) (x : List UInt8) (h : xs ≠ []) : Lib.join (xs ++ [x]) [32] = Lib.join xs [32] ++ ([32] ++ x) := by
  cases xs with
  | nil => exact absurd rfl h
  | cons y r =>
    rw [List.cons_append, Lib.join_cons, Lib.join_cons]
    unfold Lib.joinTail
    simp
theorem joined_snoc (xs : List ByteArray) (x : ByteArray) (h : xs ≠ []) : joined (xs ++ [x]) = joined xs ++ ⟨#[32]⟩ ++ x := by
  unfold joined bytesOf
  rw [List.map_append, List.map_cons, List.map_nil, join_snoc _ _ (by simpa using h)]
  apply ByteArray.ext
  simp [ByteArray.data_append]
theorem joined_size (xs : List ByteArray) : (joined xs).size ≤ total xs + xs.length := by
  cases xs with
  | nil => simp [joined_nil, ByteArray.size]
  | cons x r =>
    have h := Lib.join_length x.data.toList (bytesOf r) [32]
    have e : (joined (x :: r)).size = (Lib.join (x.data.toList :: bytesOf r) [32]).length := by
      unfold joined bytesOf
      simp [ByteArray.size]
    have e2 : Lib.lens (bytesOf (x :: r)) = total (x :: r) := by
      unfold Lib.lens total bytesOf
      rw [List.map_map, show (List.length ∘ fun s : ByteArray => s.data.toList) = ByteArray.size from funext fun s => Array.length_toList]
    have e3 : (bytesOf r).length = r.length := by unfold bytesOf; rw [List.length_map]
    have e4 : x.data.toList :: bytesOf r = bytesOf (x :: r) := rfl
    rw [e, h, e3, e4, e2, List.length_cons, List.length_cons, List.length_nil]
    omega
theorem total_take (xs : List ByteArray) (k : Nat) : total (xs.take k) ≤ total xs := by
  unfold total
  conv => rhs; rw [← List.take_append_drop k xs]
  rw [List.map_append, List.sum_append]
  omega
theorem joined_step {xs : List ByteArray} {k : Nat} {x : ByteArray} (h : xs[k]? = some x) (hk : 0 < k) : joined (xs.take (k + 1)) = joined (xs.take k) ++ ⟨#[32]⟩ ++ x := by
  rw [List.take_add_one, h]
  refine joined_snoc _ _ ?_
  intro e
  have h1 := congrArg List.length e
  have h2 := (List.getElem?_eq_some_iff.1 h).1
  rw [List.length_take, List.length_nil] at h1
  omega
theorem joined_first {xs : List ByteArray} {x : ByteArray} (h : xs[0]? = some x) : joined (xs.take 1) = x := by
  rw [List.take_add_one, h]
  exact joined_one x

theorem cut_join (c : UInt8) : ∀ (r : List (List UInt8)) (x : List UInt8), (∀ y ∈ x :: r, ∀ b ∈ y, b ≠ c) → cutAt c (Lib.join (x :: r) [c]) = x :: r
  | [], x, h => by
    rw [Lib.join_one]
    exact cutAt_none (h x (by simp))
  | y :: r, x, h => by
    have e : Lib.join (x :: y :: r) [c] = x ++ c :: Lib.join (y :: r) [c] := by
      rw [Lib.join_cons, Lib.join_cons]
      simp [Lib.joinTail]
    rw [e, cutAt_app _ (h x (by simp)), cut_join c r y (fun z hz => h z (by simp [hz]))]
theorem word_bytes {x : ByteArray} (h : isWord x = true) : ∀ b ∈ x.data.toList, b ≠ 32 := by
  intro b hb e
  unfold isWord small at h
  rw [Bool.and_eq_true, List.all_eq_true] at h
  have := h.1 b hb
  subst e
  exact absurd this (by decide)
theorem cutS_joined {xs : List ByteArray} (h : xs.all isWord = true) (hn : xs ≠ []) : cutS 32 (joined xs) = xs := by
  cases xs with
  | nil => exact absurd rfl hn
  | cons x r =>
    rw [List.all_eq_true] at h
    have e : (joined (x :: r)).data.toList = Lib.join (x.data.toList :: bytesOf r) [32] := by
      unfold joined bytesOf; simp
    unfold cutS
    rw [e, cut_join 32 (bytesOf r) x.data.toList]
    · unfold bytesOf
      simp [Function.comp_def]
    · intro y hy
      rcases List.mem_cons.1 hy with rfl | hy
      · exact word_bytes (h x (by simp))
      · unfold bytesOf at hy
        obtain ⟨z, hz, rfl⟩ := List.mem_map.1 hy
        exact word_bytes (h z (by simp [hz]))
/-- JoinPhrase's answer -/
def jpOk (xs : List ByteArray) : Bool := xs.all isWord && decide (1 ≤ xs.length ∧ xs.length ≤ 8)
def jpText (xs : List ByteArray) : ByteArray := if jpOk xs = true then joined xs else ⟨#[]⟩
def jpCode (xs : List ByteArray) : Int := if jpOk xs = true then 0 else 1
theorem jp_phrase {xs : List ByteArray} (h : xs.all isWord = true) : isPhrase (joined xs) = decide (1 ≤ xs.length ∧ xs.length ≤ 8) := by
  cases xs with
  | nil => rfl
  | cons x r =>
    unfold isPhrase
    rw [cutS_joined h (by simp), h]
    simp

/-! ## walks -/
set_option maxRecDepth 100000 in
set_option maxHeartbeats 1000000 in
theorem l01Words_any (A : Option Addr) (n c : Nat) (xs : List ByteArray) (w : World) (hx : Strs w A n c xs) (hT : total xs + n ≤ 1000000000000) :
    Calls Tryz.prog 59 #[.slice A n c] w fun e w' => e = .returned (.string (joined xs)) ∧ Below w.heap.size w w' := by
  have hcm := hx.2.1.cap
  have hnc := hx.2.1.le
  have HX := Lib.hid hx.1
  unfold maxLen at hcm
  have hsz : ∀ k, k ≤ n → (joined (xs.take k)).size ≤ 1000000000000 := fun k hk => by
    have h1 := joined_size (xs.take k)
    have h2 := total_take xs k
    have h3 : (xs.take k).length ≤ k := by rw [List.length_take]; omega
    omega
  have HSZ := Lib.hid hsz
  clear hsz
  go_enter Tryz.func59, Tryz.ntmps59
  go_wp2
  go_loopw [3, 4] (fun o i wr => ∃ (k : Nat) (t : ByteArray), k ≤ n ∧ i = .int .i64 k ∧ o = .string t ∧ Hid (t = joined (xs.take k)) ∧ Below w.heap.size w wr) (fun _ i _ => n - (intOf i).toNat)
  case atStart => exact ⟨0, _, Nat.zero_le _, rfl, rfl, rfl, Below.refl _ _⟩
  case round =>
    obtain ⟨k, t, hk, rfl, rfl, hq, hb⟩ := hrel
    by_cases hlt : k < n
    · obtain ⟨b, off, rfl, hbl⟩ := hx.at_ k hlt
      obtain ⟨s, hs, c0, _⟩ := hx.el hb hbl k hlt
      have z1 := HSZ.out k hk
      have z2 := HSZ.out (k + 1) hlt
      by_cases h0 : 0 < k
      · have HQ := Lib.hid (joined_step hs.out h0)
        have e3 : (joined (xs.take (k + 1))).size = t.size + 1 + s.size := by
          rw [HQ.out, ← hq.out, ByteArray.size_append, ByteArray.size_append]; rfl
        rw [e3] at z2
        rw [← hq.out] at z1
        have HT := Lib.hid (show t ++ ⟨#[32]⟩ ++ s = joined (xs.take (k + 1)) by rw [HQ.out, hq.out])
        clear e3 hq HQ
        go_wp2
        go_roundw
        case rel => exact ⟨k + 1, _, by omega, by go_num, rfl, HT, hb⟩
        case measure => simp [intOf]; omega
      · have HT := Lib.hid (show s = joined (xs.take (k + 1)) by
          have hk0 : k = 0 := by omega
          have h1 := hs.out
          rw [hk0] at h1 ⊢
          exact (joined_first h1).symm)
        have ht : t = ⟨#[]⟩ := by rw [hq.out, show k = 0 by omega]; rfl
        subst ht
        rw [← HT.out] at z2
        clear hq
        go_wp2
        go_roundw
        case rel => exact ⟨k + 1, _, by omega, by go_num, rfl, HT, hb⟩
        case measure => simp [intOf]; omega
    · have HT := Lib.hid (show t = joined xs by rw [hq.out, List.take_of_length_le (by have := HX.out; omega)])
      clear hq
      go_wp2
      go_ret
      exact ⟨by rw [← HT.out]; rfl, hb⟩

theorem jp_no {xs : List ByteArray} (h : jpOk xs = false) : Hid (jpText xs = ⟨#[]⟩ ∧ jpCode xs = 1) := by
  unfold Hid jpText jpCode
  rw [h]
  exact ⟨rfl, rfl⟩
theorem jp_yes {xs : List ByteArray} (h : jpOk xs = true) : Hid (jpText xs = joined xs ∧ jpCode xs = 0) := by
  unfold Hid jpText jpCode
  rw [h]
  exact ⟨rfl, rfl⟩
/-! ## the harness's copies and sizes -/
def szOf (left : Int) (n : Nat) (xs : List ByteArray) : Int := if left - n - total xs < 0 then -1 else left - n - total xs
theorem total_succ {xs : List ByteArray} {k : Nat} {x : ByteArray} (h : xs[k]? = some x) : total (xs.take (k + 1)) = total (xs.take k) + x.size := by
  unfold total
  rw [List.take_add_one, h]
  simp
end Go.Proofs.YtpnbbhomkneflaaGreatDoor
namespace Go.Proofs.YtpnbbhomkneflaaGreatDoor
open Go.ChangeShapes Go.WideShapes Go.ChangeAt Go.RowKit Go.Deep Go.Joins

/-- a slice of integers, as the list of them -/
def Ints (w : World) (A : Option Addr) (n c : Nat) (xs : List Int) : Prop := n = xs.length ∧ Reads w 1 A n c (xs.map (Value.int .i64))
theorem Ints.below {w w' : World} {A : Option Addr} {n c : Nat} {xs : List Int} (h : Ints w A n c xs) (hb : Below w.heap.size w w') : Ints w' A n c xs := ⟨h.1, h.2.below hb⟩
theorem Ints.at_ {w : World} {A : Option Addr} {n c : Nat} {xs : List Int} (h : Ints w A n c xs) (k : Nat) (hk : k < n) : ∃ b off, A = some ⟨b, off, none⟩ ∧ b < w.heap.size := by
  obtain ⟨b, off, e, hlt, _⟩ := h.2.at_ (by omega)
  exact ⟨b, off, e, hlt⟩
theorem Ints.el {w wr : World} {b off n c : Nat} {xs : List Int} (h : Ints w (some ⟨b, off, none⟩) n c xs) {B : Nat} (hb : Below B w wr) (hbl : b < B) (k : Nat) (hk : k < n) :
    ∃ s, Hid (xs[k]? = some s) ∧ wr.cell? ⟨b, off + k, none⟩ = some (.int .i64 s) := by
  obtain ⟨b', off', e, _, hc⟩ := h.2.at_ (by omega)
  injection e with e; injection e with e1 e2
  subst e1; subst e2
  have hl : k < xs.length := by rw [← h.1]; exact hk
  exact ⟨xs[k], List.getElem?_eq_getElem hl, (hb.cell (p := ⟨b, off + k, none⟩) hbl).trans (hc k _ (by simp [hl]))⟩
theorem own_ints {w : World} {base : Nat} {e : TypeId} {A : Option Addr} {n c : Nat} {xs : List Int} (h : w.ownsRow base e 1 (.slice A n c) n (xs.map (Value.int .i64))) : Ints w A n c xs :=
  ⟨by have := h.1; simpa using this.symm, Reads.of_own h⟩
theorem own_ints_ {w : World} {base : Nat} {e : TypeId} {v : Value} {n : Nat} {xs : List Int} (h : w.ownsRow base e 1 v n (xs.map (Value.int .i64))) : ∃ A c, v = .slice A n c ∧ Ints w A n c xs := by
  rcases h.2 with ⟨hv, hn⟩ | ⟨g, cap, cur, hv, _⟩
  · subst hv
    subst hn
    exact ⟨none, _, rfl, own_ints h⟩
  · subst hv
    exact ⟨_, _, rfl, own_ints h⟩
theorem open_ints_ {H : Type} {enc : TypeId × Value → H} {P : Program} {w : World} {base : Nat} {spare : Nat → Bool} {held : Bool}
    {t e : TypeId} {v : Value} {r : Reach} {b0 : Nat} {d : DataW H} {p : List MemPlace} (ht : P.underlying t = some (.slice e)) (he : P.underlying e = some (.int .i64)) (hC : P.cellsOf e = 1)
    (hv : Value.okWide P w r b0 t v) (h : DataW.Trod enc P w base spare held t v d p) :
    ∃ (A : Option Addr) (n c : Nat) (xs : List Int), v = .slice A n c ∧ Ints w A n c xs := by
  obtain ⟨A, n, c, el, fuel, rfl, hr, hl, he2⟩ := open_row ht hC (by omega) hv h
  have hex : ∀ i, ∃ s : Int, i < n → el i = [.int .i64 s] := fun i => by
    by_cases hlt : i < n
    · obtain ⟨y, hy⟩ := he2 i hlt
      obtain ⟨s, hs, _⟩ := DataW.trod_int he hy
      exact ⟨s, fun _ => hs⟩
    · exact ⟨0, fun h => absurd h hlt⟩
  obtain ⟨X, hX⟩ := Classical.axiomOfChoice hex
  refine ⟨A, n, c, (List.range n).map X, rfl, by simp, ?_⟩
  have : ((List.range n).map X).map (Value.int .i64) = (List.range n).flatMap el := by
    rw [congr_flat (g := fun i => [Value.int .i64 (X i)]) (fun i hi => hX i (by simpa using hi)), List.map_map, List.map_eq_flatMap]
    rfl
  rw [this]
  exact hr

/-- marks of integers -/
def imarks (k n : Nat) : List Int := (List.range n).map fun i => ((k + i : Nat) : Int)
theorem imarks_len (k n : Nat) : (imarks k n).length = n := by simp [imarks]
theorem imarks_at (k n i : Nat) (h : i < n) : (imarks k n)[i]? = some ((k + i : Nat) : Int) := by
  unfold imarks
  rw [List.getElem?_map, List.getElem?_range h]; rfl

end Go.Proofs.YtpnbbhomkneflaaGreatDoor
namespace Go.Proofs.YtpnbbhomkneflaaGreatDoor
open Go.ChangeShapes Go.WideShapes Go.ChangeAt Go.RowKit

theorem grown_refl (w : World) (row : Option Nat) : w.grownBy w row := ⟨rfl, rfl, rfl, Nat.le_refl _, fun _ _ _ => rfl⟩
theorem grown_trans {a b c : World} {row : Option Nat} (h : a.grownBy b row) (h2 : b.grownBy c row) : a.grownBy c row :=
  ⟨h2.os.trans h.os, h2.tape.trans h.tape, h2.output.trans h.output, Nat.le_trans h.size h2.size, fun k hk hne => (h2.block k (Nat.lt_of_lt_of_le hk h.size) hne).trans (h.block k hk hne)⟩
theorem grown_below {w w' : World} {row : Option Nat} (h : Below w.heap.size w w') : w.grownBy w' row := ⟨h.os, h.tape, h.output, h.size, fun k hk _ => h.block k hk⟩
theorem grown_set (w : World) (g j : Nat) (u : Value) : w.grownBy (w.setCell ⟨g, j, none⟩ u) (some g) := by
  have h := (Below.refl g w).setCell (p := ⟨g, j, none⟩) (Nat.le_refl _) u
  exact ⟨h.os, h.tape, h.output, h.size, fun k _ hne => Below.heap_setCell _ _ _ k (fun e => hne (by rw [e]))⟩
/-- what lies above the marked slice stays its own -/
theorem own_grown {w w' : World} {base g : Nat} {e : TypeId} {size : Nat} {v : Value} {n : Nat} {xs : List Value} (h : w.ownsRow base e size v n xs) (hg : w.grownBy w' (some g)) (hlt : g < base) : w'.ownsRow base e size v n xs := by
  refine h.kept hg ?_
  cases hv : v.ownBlock with
  | none => exact .inl rfl
  | some k =>
    refine .inr fun e => ?_
    have := (h.lt k hv).1
    injection e with e
    omega
theorem below_grown {B g : Nat} {a w w' : World} (h : Below B a w) (hg : w.grownBy w' (some g)) (hB : B ≤ a.heap.size) (hgB : B ≤ g) : Below B a w' :=
  h.grown hg (Nat.le_trans hB h.size) (fun k hk => by injection hk with hk; omega)

end Go.Proofs.YtpnbbhomkneflaaGreatDoor
namespace Go.Proofs.YtpnbbhomkneflaaGreatDoor
open Go.ChangeShapes Go.WideShapes Go.ChangeAt Go.RowKit

structure Zone (lo hi : Nat) (w w' : World) : Prop where
  os : w'.os = w.os
  tape : w'.tape = w.tape
  output : w'.output = w.output
  size : w.heap.size ≤ w'.heap.size
  block : ∀ k, k < w.heap.size → (k < lo ∨ hi ≤ k) → w'.heap[k]? = w.heap[k]?
theorem Zone.refl (lo hi : Nat) (w : World) : Zone lo hi w w := ⟨rfl, rfl, rfl, Nat.le_refl _, fun _ _ _ => rfl⟩
theorem Zone.trans {lo hi : Nat} {a b c : World} (h : Zone lo hi a b) (h2 : Zone lo hi b c) : Zone lo hi a c :=
  ⟨h2.os.trans h.os, h2.tape.trans h.tape, h2.output.trans h.output, Nat.le_trans h.size h2.size, fun k hk hne => (h2.block k (Nat.lt_of_lt_of_le hk h.size) hne).trans (h.block k hk hne)⟩
theorem Zone.of_below {lo hi : Nat} {w w' : World} (h : Below w.heap.size w w') : Zone lo hi w w' := ⟨h.os, h.tape, h.output, h.size, fun k hk _ => h.block k hk⟩
theorem Zone.of_grown {lo hi g : Nat} {w w' : World} (h : w.grownBy w' (some g)) (h1 : lo ≤ g) (h2 : g < hi) : Zone lo hi w w' :=
  ⟨h.os, h.tape, h.output, h.size, fun k hk hne => h.block k hk (fun e => by injection e with e; omega)⟩
theorem Zone.wider {lo hi lo' hi' : Nat} {w w' : World} (h : Zone lo hi w w') (h1 : lo' ≤ lo) (h2 : hi ≤ hi') : Zone lo' hi' w w' :=
  ⟨h.os, h.tape, h.output, h.size, fun k hk hne => h.block k hk (by omega)⟩
theorem Zone.set {lo hi : Nat} (w : World) (g j : Nat) (u : Value) (h1 : lo ≤ g) (h2 : g < hi) : Zone lo hi w (w.setCell ⟨g, j, none⟩ u) := Zone.of_grown (grown_set w g j u) h1 h2
theorem below_zone {B lo hi : Nat} {a w w' : World} (h : Below B a w) (hz : Zone lo hi w w') (hB : B ≤ a.heap.size) (hl : B ≤ lo) : Below B a w' :=
  h.trans ⟨hz.os, hz.tape, hz.output, hz.size, fun k hk => hz.block k (Nat.lt_of_lt_of_le hk (Nat.le_trans hB h.size)) (by omega)⟩
theorem own_block {w w' : World} {base : Nat} {e : TypeId} {size : Nat} {v : Value} {n : Nat} {xs : List Value} (h : w.ownsRow base e size v n xs) (hb : ∀ k, v.ownBlock = some k → w'.heap[k]? = w.heap[k]?) : w'.ownsRow base e size v n xs := by
  refine ⟨h.1, h.2.imp id fun ⟨g, cap, cur, h1, h2, h3, r⟩ => ⟨g, cap, cur, h1, h2, ?_, r⟩⟩
  rw [hb g (by rw [h1]; rfl)]
  exact h3
theorem own_zone {w w' : World} {base lo hi : Nat} {e : TypeId} {size : Nat} {v : Value} {n : Nat} {xs : List Value} (h : w.ownsRow base e size v n xs) (hz : Zone lo hi w w') (hb : ∀ k, v.ownBlock = some k → k < lo ∨ hi ≤ k) : w'.ownsRow base e size v n xs :=
  own_block h fun k hk => hz.block k (h.lt k hk).2 (hb k hk)
theorem own_above {w w' : World} {base lo hi : Nat} {e : TypeId} {size : Nat} {v : Value} {n : Nat} {xs : List Value} (h : w.ownsRow base e size v n xs) (hz : Zone lo hi w w') (hl : hi ≤ base) : w'.ownsRow base e size v n xs :=
  own_zone h hz fun k hk => .inr (Nat.le_trans hl (h.lt k hk).1)
end Go.Proofs.YtpnbbhomkneflaaGreatDoor
namespace Go.Proofs.YtpnbbhomkneflaaGreatDoor
open Go.RowKit

section
variable {P : Program} {ops : Array Oper} {md : Region.Mode} {C : World → Prop}

/-- each operation ahead of number n that is not among the first m is awaited by a later one, up to number n -/
def sinkFrom (md : Region.Mode) (ops : Array Oper) (m n : Nat) : Bool :=
  (List.range n).all fun i => decide (i < m) || (List.range (n + 1)).any fun j => decide (i < j) && Region.waitsFor md ops j i
def Led (m : Nat) (listed : Array Bool) : Prop := ∀ i, i < m → listed.getD i true = true

theorem Led.set {m i : Nat} {listed : Array Bool} (h : Led m listed) : Led m (listed.setIfInBounds i true) := fun j hj => by
  by_cases e : i = j
  · subst e
    rcases Nat.lt_or_ge i listed.size with h' | h'
    · simp [h']
    · simp [Array.getElem?_eq_none, h']
  · rw [getD_set_ne true e]; exact h j hj
theorem Led.succ {m : Nat} {listed : Array Bool} (h : Led m listed) : Led (m + 1) (listed.setIfInBounds m true) := fun j hj => by
  by_cases e : m = j
  · subst e
    rcases Nat.lt_or_ge m listed.size with h' | h'
    · simp [h']
    · simp [Array.getElem?_eq_none, h']
  · rw [getD_set_ne true e]; exact h j (by omega)

theorem tail_waits_ {m n : Nat} {listed : Array Bool} (hs : sinkFrom md ops m n = true) (hc : Region.chainB md ops n = true) (hn : n < ops.size) (inv : HeadInv md ops n listed) (hL : Led m listed) :
    ∀ (d i : Nat), n - i = d → i < n → listed.getD i true = false → ∀ t, n ≤ t → t ∉ Region.ready md ops listed := by
  intro d
  induction d using Nat.strongRecOn with
  | _ d ih =>
    intro i hd hi hun t ht hr
    obtain ⟨_, ot, hot, hall⟩ := mem_ready.1 hr
    have htlt : t < ops.size := (Array.getElem?_eq_some_iff.1 hot).1
    by_cases htn : t = n
    · subst htn
      have h1 := List.all_eq_true.1 hs i (List.mem_range.2 hi)
      have him : ¬ i < m := fun h => by rw [hL i h] at hun; cases hun
      rw [Bool.or_eq_true] at h1
      rcases h1 with h1 | h1
      · exact absurd (of_decide_eq_true h1) him
      obtain ⟨j, hj, hj2⟩ := List.any_eq_true.1 h1
      simp only [Bool.and_eq_true, decide_eq_true_eq] at hj2
      obtain ⟨oj, hoj, e, he, hb, hon⟩ := Region.waitsFor_spec hj2.2
      have hjle : j ≤ t := by have := List.mem_range.1 hj; omega
      by_cases hjt : j = t
      · subst hjt
        have : oj = ot := Option.some.inj (hoj.symm.trans hot)
        subst this
        have h2 := hall e he hb
        rw [hon, getD_both hun] at h2
        cases h2
      · cases hl : listed.getD j false with
        | true =>
          have h2 := inv.closed j oj hoj hl e he hb
          rw [hon, getD_both hun] at h2
          cases h2
        | false =>
          have hjs : j < listed.size := by rw [inv.size]; omega
          exact ih (t - j) (by omega) j rfl (by omega) (getD_in hjs hl) t (Nat.le_refl _) hr
    · have h1 := List.all_eq_true.1 hc t (List.mem_range.2 htlt)
      simp only [Bool.or_eq_true, decide_eq_true_eq] at h1
      rcases h1 with h1 | h1
      · omega
      · obtain ⟨o', ho', e, he, hb, hon⟩ := Region.waitsFor_spec h1
        have : o' = ot := Option.some.inj (ho'.symm.trans hot)
        subst this
        have h2 := hall e he hb
        rw [hon, getD_both (inv.tail (t - 1) (by omega) (by omega))] at h2
        cases h2

def wpMix (P : Program) (md : Region.Mode) (ops : Array Oper) (C : World → Prop) (n : Nat) (L : Array Bool → Act → Prop) : Nat → Array Bool → Act → Prop
  | 0, listed, a => L listed a
  | f + 1, listed, a => Region.ready md ops listed ≠ [] ∧ ∀ i ∈ Region.ready md ops listed, i < n ∧ qOp P ops C i (wpMix P md ops C n L f (listed.setIfInBounds i true)) a

theorem wpAny_of_mix {n g : Nat} {L : Array Bool → Act → Prop} {Q' : Exit → Act → World → Prop} (hL : ∀ listed a w, C w → L listed a → wpAny P md ops Q' g listed a w) :
    ∀ (f : Nat) (listed : Array Bool) (a : Act) (w : World), C w → wpMix P md ops C n L f listed a → wpAny P md ops Q' (f + g) listed a w
  | 0, listed, a, w, hw, h => by rw [Nat.zero_add]; exact hL _ _ _ hw h
  | f + 1, listed, a, w, hw, h => by
    rw [show f + 1 + g = (f + g) + 1 by omega]
    exact ⟨fun h0 => absurd h0 h.1, fun i hi => wpOp_of_qOp hw (fun a' w' hw' h' => wpAny_of_mix hL f _ a' w' hw' h') (h.2 i hi).2⟩

theorem wpMix_first {m n i : Nat} {oi : Oper} {v : Value} {L : Array Bool → Act → Prop} (hi : ops[i]? = some oi) (hsel : ∀ (j : Nat) (o : Oper) cs b, ops[j]? = some o → o.op ≠ .select cs b)
    (hs : sinkFrom md ops m n = true) (hc : Region.chainB md ops n = true) (hn : n < ops.size) (hin : i < n)
    (hdone : ∀ listed a, L listed a → ∀ j ∈ Region.ready md ops listed, n ≤ j) :
    ∀ (f : Nat) (listed : Array Bool) (a : Act), HeadInv md ops n listed → Led m listed →
      (∀ j oj, ops[j]? = some oj → j ≠ i → listed.getD j true = false → (∀ e ∈ oj.after, Region.binds md e = true → e.on ≠ i) → oi.apart ops oj = true) →
      i ∈ Region.ready md ops listed → YieldsIn P ops C oi v a →
      wpMix P md ops C n L f (listed.setIfInBounds i true) (a.put oi.dst v) → wpMix P md ops C n L (f + 1) listed a := by
  intro f
  induction f with
  | zero =>
    intro listed a inv hld _ hr hy H
    have hun := (mem_ready.1 hr).1
    refine ⟨fun h => (by rw [h] at hr; cases hr), fun j hj => ?_⟩
    have hjn : j < n := by
      rcases Nat.lt_or_ge j n with h | h
      · exact h
      · exact absurd hj (tail_waits_ hs hc hn inv hld _ i rfl hin hun j h)
    refine ⟨hjn, ?_⟩
    by_cases hji : j = i
    · subst hji; exact hy.qOp hi H
    · have := hdone _ _ H j (ready_mono hj hji)
      omega
  | succ f ih =>
    intro listed a inv hld hfree hr hy H
    have hun := (mem_ready.1 hr).1
    refine ⟨fun h => (by rw [h] at hr; cases hr), fun j hj => ?_⟩
    have hjn : j < n := by
      rcases Nat.lt_or_ge j n with h | h
      · exact h
      · exact absurd hj (tail_waits_ hs hc hn inv hld _ i rfl hin hun j h)
    refine ⟨hjn, ?_⟩
    by_cases hji : j = i
    · subst hji; exact hy.qOp hi H
    · have h1 := (H.2 j (ready_mono hj hji)).2
      obtain ⟨hjun, oj, hoj, hall⟩ := mem_ready.1 hj
      have hnot : ∀ e ∈ oj.after, Region.binds md e = true → e.on ≠ i := fun e he hb heq => by
        have h1 := hall e he hb
        rw [heq, getD_both hun] at h1
        cases h1
      have h2 := qOp_put hoj (hfree j oj hoj hji hjun hnot) (fun cs b => hsel i oi cs b hi) (fun cs b => hsel j oj cs b hoj) hy h1
      have hfree' : ∀ k ok, ops[k]? = some ok → k ≠ i → (listed.setIfInBounds j true).getD k true = false →
          (∀ e ∈ ok.after, Region.binds md e = true → e.on ≠ i) → oi.apart ops ok = true := fun k ok hk hki hun hno => by
        refine hfree k ok hk hki ?_ hno
        by_cases hjk : j = k
        · subst hjk; exact hjun
        · rw [getD_set_ne true hjk] at hun; exact hun
      refine qOp_mono (fun a' h3 => ih (listed.setIfInBounds j true) a' (inv.set hj hjn) hld.set hfree' (ready_mono hr (Ne.symm hji)) h3.1 ?_) h2
      rw [Array.setIfInBounds_comm _ _ hji]
      exact h3.2

theorem wpMix_lex {m n g : Nat} {Lq : Act → Prop} (hsel : Region.noSelect ops = true) (hs : sinkFrom md ops m n = true) (hc : Region.chainB md ops n = true) (hn : n < ops.size) :
    ∀ (l : List Oper) (k : Nat) (listed : Array Bool) (a : Act), (∀ j, j < l.length → l[j]? = ops[k + j]?) → k + l.length = n → HeadInv md ops n listed → Led m listed →
    Region.lexHead md ops g l.length k listed = true → wpQuiet P ops C Lq l a →
    wpMix P md ops C n (fun listed' a' => Region.seqB md ops g n listed' = true ∧ Lq a') l.length listed a
  | [], k, listed, a, _, hk, _, _, hB, h => by
    have : k = n := by simpa using hk
    subst this
    exact ⟨by simpa [Region.lexHead] using hB, h⟩
  | o :: l, k, listed, a, hl, hk, inv, hld, hB, h => by
    have h0 : ops[k]? = some o := by simpa using (hl 0 (by simp)).symm
    simp only [List.length_cons, Region.lexHead, Bool.and_eq_true] at hB
    obtain ⟨⟨hr, hf⟩, hB'⟩ := hB
    have hkn : k < n := by simp only [List.length_cons] at hk; omega
    have hr' : k ∈ Region.ready md ops listed := by simpa using hr
    have hst : qOp P ops C k (wpQuiet P ops C Lq l) a := by unfold qOp; simp only [h0]; exact h
    obtain ⟨v, hy, hK⟩ := yieldsIn_of_qOp h0 hst
    exact wpMix_first h0 (Region.noSelect_spec hsel) hs hc hn hkn (fun listed' a' hL => seqB_ready hL.1) l.length listed a inv hld (Region.free_spec h0 hf) hr' hy
      (wpMix_lex hsel hs hc hn l (k + 1) _ _ (fun j hj => by have := hl (j + 1) (by simp; omega); simpa [Nat.add_assoc, Nat.add_comm 1 j] using this) (by simp only [List.length_cons] at hk; omega) (inv.set hr' hkn) hld.set hB' hK)

/-- the first m operations are plain copies -/
def leadB : Nat → List Oper → Bool
  | 0, _ => true
  | _ + 1, [] => false
  | m + 1, o :: l => (match o.op with | .move _ => true | _ => false) && o.guard.isNone && leadB m l

theorem put_tmps (a : Act) (d : Option Tmp) (v : Value) : ∃ t, a.put d v = { a with tmps := t } := by
  cases d with
  | none => exact ⟨a.tmps, rfl⟩
  | some d => exact ⟨_, rfl⟩
theorem lead_step {Q : Act → Prop} {o : Oper} {rest : List Oper} {a : Act} {w : World} {x : Operand} (ho : o.op = .move x) (hg : o.guard = none) (hw : C w) (h : wpQuiet P ops C Q (o :: rest) a) :
    wpQuiet P ops C Q rest (a.put o.dst (a.eval x)) := by
  have hwant : Region.wanted o (yielded ops a.tmps) = true := by unfold Region.wanted; rw [hg]
  unfold wpQuiet at h
  rw [if_pos hwant] at h
  obtain ⟨v, hv, hK⟩ := h
  have h1 := hv w hw
  unfold Oper.quietAt at h1
  rw [BigFrame.run_move x ho] at h1
  obtain ⟨_, e⟩ := h1
  rw [e]
  exact hK

theorem wpAny_lead {m0 n g : Nat} {Lq : Act → Prop} {Q : Exit → Act → World → Prop} {w : World} (hsel : Region.noSelect ops = true) (hQ : ∀ c (a : Act) (t : Array Value) w, Q (.panic c) { a with tmps := t } w → Q (.panic c) a w) (hw : C w) (hn : n < ops.size)
    (rest : ∀ (l : List Oper) (listed : Array Bool) (a : Act), (∀ j, j < l.length → l[j]? = ops[m0 + j]?) → m0 + l.length = n → HeadInv md ops n listed → Led m0 listed → Region.lexHead md ops g l.length m0 listed = true → wpQuiet P ops C Lq l a →
      wpAny P md ops Q (l.length + g) listed a w) :
    ∀ (m k : Nat) (l : List Oper) (listed : Array Bool) (a : Act), k + m = m0 → leadB m l = true → (∀ j, j < l.length → l[j]? = ops[k + j]?) → k + l.length = n → HeadInv md ops n listed → Led k listed →
      Region.lexHead md ops g l.length k listed = true → wpQuiet P ops C Lq l a → wpAny P md ops Q (l.length + g) listed a w
  | 0, k, l, listed, a, hkm, _, hl, hk, inv, hld, hB, h => by
    obtain rfl : k = m0 := by omega
    exact rest l listed a hl hk inv hld hB h
  | m + 1, k, [], listed, a, _, hb, _, _, _, _, _, _ => by cases hb
  | m + 1, k, o :: l, listed, a, hkm, hb, hl, hk, inv, hld, hB, h => by
    have h0 : ops[k]? = some o := by simpa using (hl 0 (by simp)).symm
    simp only [leadB, Bool.and_eq_true] at hb
    obtain ⟨⟨hmv, hgd⟩, hb'⟩ := hb
    obtain ⟨x, hx⟩ : ∃ x, o.op = .move x := by
      split at hmv
      · exact ⟨_, ‹_›⟩
      · cases hmv
    have hg : o.guard = none := by simpa using hgd
    simp only [List.length_cons, Region.lexHead, Bool.and_eq_true] at hB
    obtain ⟨⟨hr, hf⟩, hB'⟩ := hB
    have hkn : k < n := by simp only [List.length_cons] at hk; omega
    have hr' : k ∈ Region.ready md ops listed := by simpa using hr
    rw [List.length_cons, show l.length + 1 + g = (l.length + g) + 1 by omega]
    refine wpAny_first h0 (Region.noSelect_spec hsel) (fun c a' w' h' => by obtain ⟨t, ht⟩ := put_tmps a' o.dst (a.eval x); rw [ht] at h'; exact hQ c _ t w' h') _ _ _ _ (Region.free_spec h0 hf) hr' (v := a.eval x) (Or.inl ⟨by unfold Region.wanted; rw [hg], fun w' => BigFrame.run_move x hx w'⟩) ?_
    exact wpAny_lead hsel hQ hw hn rest m (k + 1) l _ _ (by omega) hb' (fun j hj => by have := hl (j + 1) (by simp; omega); simpa [Nat.add_assoc, Nat.add_comm 1 j] using this) (by simp only [List.length_cons] at hk; omega) (inv.set hr' hkn) hld.succ hB' (lead_step hx hg hw h)

/-- what the kernel is asked of the region: m leading copies, n operations of head -/
def mixB (m : Nat) (ops : Array Oper) (n : Nat) : Bool :=
  Region.noSelect ops && decide (n < ops.size) && sinkFrom .any ops m n && Region.chainB .any ops n && leadB m ops.toList && decide (m ≤ n) && Region.lexHead .any ops (ops.size - n) n 0 (Array.replicate ops.size false)

theorem leadB_take : ∀ (m n : Nat) (l : List Oper), m ≤ n → leadB m l = true → leadB m (l.take n) = true
  | 0, _, _, _, _ => rfl
  | m + 1, _, [], _, h => by cases h
  | m + 1, 0, o :: l, h, _ => by omega
  | m + 1, n + 1, o :: l, hmn, h => by
    simp only [leadB, List.take_succ_cons, Bool.and_eq_true] at h ⊢
    exact ⟨h.1, leadB_take m n l (by omega) h.2⟩

/-- m leading copies; n operations of head, quiet in the class C; what stands behind them a forced chain, walked from every world of C. -/
theorem wp_region_mix {id : Nat} {Q : Exit → Act → World → Prop} {a : Act} {w : World} {l : List Oper} (m n : Nat) (hm : P.follows .mixedOrders = true) (hB : mixB m l.toArray n = true) (hQ : ∀ c (a : Act) (t : Array Value) w, Q (.panic c) { a with tmps := t } w → Q (.panic c) a w)
    (hC : C { w with drawn := w.drawn + 1 }) (h : wpQuiet P l.toArray C (fun a' => ∀ w', C w' → wpList P l.toArray Q (l.drop n) a' w') (l.take n) a) : (Code.region id l.toArray true).wp P Q a w := by
  simp only [mixB, Bool.and_eq_true, decide_eq_true_eq] at hB
  obtain ⟨⟨⟨⟨⟨⟨hsel, hn⟩, hs⟩, hc⟩, hlead⟩, hmn⟩, hlex⟩ := hB
  have hn' : n < l.length := by simpa using hn
  have htl : (l.take n).length = n := by simp; omega
  have hdl : (l.drop n).length = l.toArray.size - n := by simp
  have inv0 : HeadInv .any l.toArray n (Array.replicate l.toArray.size false) :=
    ⟨by simp, fun j oj _ hl => (by rw [getD_replicate_false] at hl; cases hl), fun t _ ht => getD_in (by simpa using ht) (getD_replicate_false _ _)⟩
  refine wp_region_any hm ?_
  have H := wpAny_lead (md := .any) (C := C) (m0 := m) (n := n) (g := l.toArray.size - n) (w := { w with drawn := w.drawn + 1 }) hsel hQ hC hn (fun l1 listed a1 hl1 hk1 inv1 hld1 hB1 h1 =>
    wpAny_of_mix (Q' := Q) (g := l.toArray.size - n) (fun listed2 a2 w2 hw2 hL2 => by
      have := wpAny_of_seq (md := .any) (Q' := Q) (l.drop n) n listed2 a2 w2 (fun j => by simp [List.getElem?_drop]) (by rw [hdl]; exact hL2.1) (hL2.2 w2 hw2)
      rwa [hdl] at this) _ _ _ _ hC (wpMix_lex hsel hs hc hn l1 m listed a1 hl1 hk1 inv1 hld1 hB1 h1))
    m 0 (l.take n) _ a (by omega) (leadB_take m n l hmn (by simpa using hlead)) (fun j hj => by
      have hj' : j < n := by rw [htl] at hj; exact hj
      simp [hj']) (by simpa using htl) inv0 (fun i hi => absurd hi (by omega)) (by rw [htl]; exact hlex) h
  rw [htl, show n + (l.toArray.size - n) = l.toArray.size by omega] at H
  exact H

/-- at the class 'what was there is as it was' -/
theorem wp_region_tail {id : Nat} {Q : Exit → Act → World → Prop} {a : Act} {w : World} {l : List Oper} (m n : Nat) (hm : P.follows .mixedOrders = true) (hB : mixB m l.toArray n = true) (hQ : ∀ c (a : Act) (t : Array Value) w, Q (.panic c) { a with tmps := t } w → Q (.panic c) a w)
    (h : wpQuiet P l.toArray (fun w' => ∃ x : After w, w' = after x) (fun a' => ∀ w', (∃ x : After w, w' = after x) → wpList P l.toArray Q (l.drop n) a' w') (l.take n) a) : (Code.region id l.toArray true).wp P Q a w :=
  wp_region_mix (C := fun w' => ∃ x : After w, w' = after x) m n hm hB hQ ⟨⟨w.drew, (Below.refl _ _).drew⟩, rfl⟩ h
end
end Go.Proofs.YtpnbbhomkneflaaGreatDoor
namespace Go.Proofs.YtpnbbhomkneflaaGreatDoor
open Go.ChangeShapes Go.WideShapes Go.ChangeAt Go.RowKit Go.Deep Go.Joins

/-- a slice of bytes, as the list of them -/
def Bytes (w : World) (A : Option Addr) (n c : Nat) (bs : List UInt8) : Prop := n = bs.length ∧ Reads w 1 A n c (bs.map fun b => Value.int .u8 b.toNat)
theorem Bytes.below {w w' : World} {A : Option Addr} {n c : Nat} {bs : List UInt8} (h : Bytes w A n c bs) (hb : Below w.heap.size w w') : Bytes w' A n c bs := ⟨h.1, h.2.below hb⟩
theorem Bytes.at_ {w : World} {A : Option Addr} {n c : Nat} {xs : List UInt8} (h : Bytes w A n c xs) (k : Nat) (hk : k < n) : ∃ b off, A = some ⟨b, off, none⟩ ∧ b < w.heap.size := by
  obtain ⟨b, off, e, hlt, _⟩ := h.2.at_ (by omega)
  exact ⟨b, off, e, hlt⟩
theorem Bytes.el {w : World} {b off n c : Nat} {xs : List UInt8} (h : Bytes w (some ⟨b, off, none⟩) n c xs) (k : Nat) (hk : k < n) :
    ∃ s : UInt8, w.cell? ⟨b, off + k, none⟩ = some (.int .u8 s.toNat) := by
  obtain ⟨b', off', e, _, hc⟩ := h.2.at_ (by omega)
  injection e with e; injection e with e1 e2
  subst e1; subst e2
  have hl : k < xs.length := by rw [← h.1]; exact hk
  exact ⟨xs[k], hc k _ (by simp [hl])⟩

theorem of_lit_wf_u8 {s : Int} (h : (Lit.int .u8 s).wf = true) : 0 ≤ s ∧ s < 256 := by
  have a1 : IntKind.u8.min = 0 := rfl
  have a2 : IntKind.u8.max = 255 := rfl
  simp [Lit.wf, a1, a2] at h
  omega
theorem open_bytes_ {H : Type} {enc : TypeId × Value → H} {P : Program} {w : World} {base : Nat} {spare : Nat → Bool} {held : Bool}
    {t e : TypeId} {v : Value} {r : Reach} {b0 : Nat} {d : DataW H} {p : List MemPlace} (ht : P.underlying t = some (.slice e)) (he : P.underlying e = some (.int .u8)) (hC : P.cellsOf e = 1)
    (hv : Value.okWide P w r b0 t v) (h : DataW.Trod enc P w base spare held t v d p) :
    ∃ (A : Option Addr) (n c : Nat) (xs : List UInt8), v = .slice A n c ∧ Bytes w A n c xs := by
  obtain ⟨A, n, c, el, fuel, rfl, hr, hl, he2⟩ := open_row ht hC (by omega) hv h
  have hex : ∀ i, ∃ s : UInt8, i < n → el i = [.int .u8 s.toNat] := fun i => by
    by_cases hlt : i < n
    · obtain ⟨y, hy⟩ := he2 i hlt
      obtain ⟨s, hs, _, hw⟩ := DataW.trod_int he hy
      have hw2 := of_lit_wf_u8 hw
      refine ⟨UInt8.ofNat s.toNat, fun _ => ?_⟩
      rw [hs, UInt8.toNat_ofNat']
      have : ((s.toNat % 2 ^ 8 : Nat) : Int) = s := by omega
      rw [this]
    · exact ⟨0, fun h => absurd h hlt⟩
  obtain ⟨X, hX⟩ := Classical.axiomOfChoice hex
  refine ⟨A, n, c, (List.range n).map X, rfl, by simp, ?_⟩
  have : ((List.range n).map X).map (fun b : UInt8 => Value.int .u8 b.toNat) = (List.range n).flatMap el := by
    rw [congr_flat (g := fun i => [Value.int .u8 (X i).toNat]) (fun i hi => hX i (by simpa using hi)), List.map_map, List.map_eq_flatMap]
    rfl
  rw [this]
  exact hr
/-- a source: its three cells, of a slice of bytes that lies ahead of it -/
structure SrcAt (w : World) (p : Nat) (A : Option Addr) (n c : Nat) (bs : List UInt8) (at_ seed : Int) : Prop where
  lt : p < w.heap.size
  c0 : w.cell? ⟨p, 0, none⟩ = some (.slice A n c)
  c1 : w.cell? ⟨p, 1, none⟩ = some (.int .i64 at_)
  c2 : w.cell? ⟨p, 2, none⟩ = some (.int .i64 seed)
  f0 : ∀ j, w.frozen? ⟨p, j, none⟩ = false
  s0 : 0 ≤ seed
  s1 : seed < 2147483647
  a0 : 0 ≤ at_
  a1 : at_ ≤ n
  by_ : Bytes w A n c bs
  bl : 0 < n → ∀ b off, A = some ⟨b, off, none⟩ → b < p
def Src (w : World) (p : Nat) : Prop := ∃ A n c bs at_ seed, SrcAt w p A n c bs at_ seed
theorem Reads.same {w w' : World} {size : Nat} {A : Option Addr} {n c : Nat} {xs : List Value} (h : Reads w size A n c xs) (hs : w.heap.size ≤ w'.heap.size) (hb : 0 < n → ∀ b off, A = some ⟨b, off, none⟩ → w'.heap[b]? = w.heap[b]?) : Reads w' size A n c xs :=
  ⟨h.le, h.cap, h.len, fun hn => by
    obtain ⟨b, off, e, hlt, hc⟩ := h.at_ hn
    refine ⟨b, off, e, Nat.lt_of_lt_of_le hlt hs, fun j u hu => ?_⟩
    rw [World.cell?_of_block (w := w) (a := ⟨b, off + j, none⟩) (hb hn b off e)]
    exact hc j u hu⟩
theorem Bytes.block {w : World} {A : Option Addr} {n c : Nat} {xs : List UInt8} (h : Bytes w A n c xs) {w' : World} (hs : w.heap.size ≤ w'.heap.size) (hb : 0 < n → ∀ b off, A = some ⟨b, off, none⟩ → w'.heap[b]? = w.heap[b]?) : Bytes w' A n c xs := ⟨h.1, h.2.same hs hb⟩
theorem SrcAt.below {w w' : World} {p : Nat} {A : Option Addr} {n c : Nat} {bs : List UInt8} {a s : Int} (h : SrcAt w p A n c bs a s) (hb : Below w.heap.size w w') : SrcAt w' p A n c bs a s :=
  ⟨Nat.lt_of_lt_of_le h.lt hb.size, cell_keep hb h.c0, cell_keep hb h.c1, cell_keep hb h.c2, fun j => (hb.frozen (p := ⟨p, j, none⟩) h.lt).trans (h.f0 j), h.s0, h.s1, h.a0, h.a1, h.by_.below hb, h.bl⟩
theorem Src.below {w w' : World} {p : Nat} (h : Src w p) (hb : Below w.heap.size w w') : Src w' p := by
  obtain ⟨A, n, c, bs, a, s, h⟩ := h
  exact ⟨A, n, c, bs, a, s, h.below hb⟩
theorem SrcAt.seed {w : World} {p : Nat} {A : Option Addr} {n c : Nat} {bs : List UInt8} {a s : Int} (h : SrcAt w p A n c bs a s) (v : Int) (h0 : 0 ≤ v) (h1 : v < 2147483647) : SrcAt (w.setCell ⟨p, 2, none⟩ (.int .i64 v)) p A n c bs a v := by
  have hg := grown_set w p 2 (.int .i64 v)
  have hne : 0 < n → ∀ b off, A = some ⟨b, off, none⟩ → (w.setCell ⟨p, 2, none⟩ (.int .i64 v)).heap[b]? = w.heap[b]? := fun hn b off e => Below.heap_setCell _ _ _ b (by have := h.bl hn b off e; simp only; omega)
  refine ⟨Nat.lt_of_lt_of_le h.lt hg.size, ?_, ?_, World.cell?_setCell_same (w := w) (a := ⟨p, 2, none⟩) (v := .int .i64 v) h.c2, fun j => by rw [World.frozen?_setCell]; exact h.f0 j, h0, h1, h.a0, h.a1, h.by_.block hg.size hne, h.bl⟩
  · rw [World.cell?_setCell_other (w := w) (a := ⟨p, 2, none⟩) (b := ⟨p, 0, none⟩) (v := .int .i64 v) (by simp)]; exact h.c0
  · rw [World.cell?_setCell_other (w := w) (a := ⟨p, 2, none⟩) (b := ⟨p, 1, none⟩) (v := .int .i64 v) (by simp)]; exact h.c1
theorem SrcAt.step {w : World} {p : Nat} {A : Option Addr} {n c : Nat} {bs : List UInt8} {a s : Int} (h : SrcAt w p A n c bs a s) (v : Int) (h0 : 0 ≤ v) (h1 : v ≤ n) : SrcAt (w.setCell ⟨p, 1, none⟩ (.int .i64 v)) p A n c bs v s := by
  have hg := grown_set w p 1 (.int .i64 v)
  have hne : 0 < n → ∀ b off, A = some ⟨b, off, none⟩ → (w.setCell ⟨p, 1, none⟩ (.int .i64 v)).heap[b]? = w.heap[b]? := fun hn b off e => Below.heap_setCell _ _ _ b (by have := h.bl hn b off e; simp only; omega)
  refine ⟨Nat.lt_of_lt_of_le h.lt hg.size, ?_, World.cell?_setCell_same (w := w) (a := ⟨p, 1, none⟩) (v := .int .i64 v) h.c1, ?_, fun j => by rw [World.frozen?_setCell]; exact h.f0 j, h.s0, h.s1, h0, h1, h.by_.block hg.size hne, h.bl⟩
  · rw [World.cell?_setCell_other (w := w) (a := ⟨p, 1, none⟩) (b := ⟨p, 0, none⟩) (v := .int .i64 v) (by simp)]; exact h.c0
  · rw [World.cell?_setCell_other (w := w) (a := ⟨p, 1, none⟩) (b := ⟨p, 2, none⟩) (v := .int .i64 v) (by simp)]; exact h.c2

set_option maxRecDepth 100000 in
set_option maxHeartbeats 2000000 in
theorem l01From_any (A : Option Addr) (n c : Nat) (bs : List UInt8) (w : World) (hx : Bytes w A n c bs) :
    Calls Tryz.prog 15 #[.slice A n c] w fun e w' => e = .returned (.pointer (some ⟨w.heap.size, 0, none⟩)) ∧ Src w' w.heap.size ∧ Below w.heap.size w w' := by
  have ha : 0 < n → ∀ b off, A = some ⟨b, off, none⟩ → b < w.heap.size := fun h b off e => by
    obtain ⟨b', off', e', hl⟩ := hx.at_ 0 h
    rw [e] at e'
    injection e' with e'
    injection e' with e1 _
    omega
  have hcm := hx.2.cap
  have hnc := hx.2.le
  unfold maxLen at hcm
  go_enter Tryz.func15, Tryz.ntmps15
  go_wp2
  have S0 : SrcAt (w.alloc (.cells #[.slice A n c, .int .i64 0, .int .i64 51031] 70)) w.heap.size A n c bs 0 51031 := by
    have B := (Below.refl w.heap.size w).alloc (Nat.le_refl _) (.cells #[.slice A n c, .int .i64 0, .int .i64 51031] 70)
    exact ⟨by simp, by go_simp, by go_simp, by go_simp, fun j => by go_simp, by omega, by omega, by omega, by omega, hx.below B, ha⟩
  have B0 := (Below.refl w.heap.size w).alloc (Nat.le_refl _) (.cells #[.slice A n c, .int .i64 0, .int .i64 51031] 70)
  go_loopw [4] (fun i wr => ∃ (k : Nat) (s : Int), k ≤ n ∧ i = .int .i64 k ∧ Hid (SrcAt wr w.heap.size A n c bs 0 s) ∧ Below w.heap.size w wr) (fun i _ => n - (intOf i).toNat)
  case atStart => exact ⟨0, 51031, Nat.zero_le _, rfl, S0, B0⟩
  case round =>
    clear S0 B0
    obtain ⟨k, s, hk, rfl, hs, hb⟩ := hrel
    by_cases hlt : k < n
    · by_cases h64 : k < 64
      · obtain ⟨b, off, rfl, hbl⟩ := hx.at_ k hlt
        obtain ⟨u, hu⟩ := hs.out.by_.el k hlt
        have hu2 : u.toNat < 256 := u.toNat_lt
        have c2 := hs.out.c2
        have f2 := hs.out.f0 2
        have s0 := hs.out.s0
        have s1 := hs.out.s1
        have hpl := hs.out.lt
        have hbp := hs.out.bl (by omega) b off rfl
        have hbw : b < wr.heap.size := by omega
        have e1 : IntKind.i64.wrap (s * 73) = s * 73 := IntWalk.i64_in _ (by omega)
        have e2 : IntKind.i64.wrap (s * 73 + u.toNat) = s * 73 + u.toNat := IntWalk.i64_in _ (by omega)
        have e3 : (s * 73 + (u.toNat : Int)).tmod 2147483647 = (s * 73 + u.toNat) % 2147483647 := Int.tmod_eq_emod_of_nonneg (by omega)
        have v0 : 0 ≤ (s * 73 + (u.toNat : Int)) % 2147483647 := by omega
        have v1 : (s * 73 + (u.toNat : Int)) % 2147483647 < 2147483647 := by omega
        have hj0 : (0 : Int) ≤ (k : Int) := Int.natCast_nonneg _
        have hj1 : (k : Int) < (n : Int) := by omega
        go_wp2
        refine wp_region_tail 0 15 (by kernel_rfl) (by kernel_rfl) (fun _ _ _ _ h => h) ?_
        simp only [List.take_succ_cons, List.take_zero, List.drop_succ_cons, List.drop_zero]
        repeat (go_big_quiet_step (fail))
        refine wpQuiet_nil ?_
        intro w2 hw2; have h2 := later_below hw2; clear hw2
        have hc_w2 := bcell h2; have hf_w2 := bfree h2
        have hz_w2_0 : w.heap.size < w2.heap.size := by have hz_ := h2.size; (try simp at hz_); omega
        have HS := Lib.hid ((hs.out.below h2).seed ((s * 73 + (u.toNat : Int)) % 2147483647) v0 v1)
        have HB := Lib.hid ((hb.trans (h2.mono hb.size)).setCell (p := ⟨w.heap.size, 2, none⟩) (Nat.le_refl _) (.int .i64 ((s * 73 + (u.toNat : Int)) % 2147483647)))
        clear hs
        go_wp2
        go_roundw
        case rel => exact ⟨k + 1, _, by omega, by go_num, HS, HB.out⟩
        case measure => simp [intOf]; omega
      · go_wp2
        go_ret
        exact ⟨rfl, ⟨_, _, _, _, _, _, hs.out⟩, hb⟩
    · go_wp2
      go_ret
      exact ⟨rfl, ⟨_, _, _, _, _, _, hs.out⟩, hb⟩

/-- what a draw returns: a number below n (0 if n is 1 or less); the source is a source still, and nothing else has changed -/
def NextPost (p : Nat) (n : Int) (w : World) (e : Ending) (w' : World) : Prop := ∃ r : Int, e = .returned (.int .i64 r) ∧ 0 ≤ r ∧ (r < n ∨ r = 0) ∧ Src w' p ∧ w.grownBy w' (some p)
set_option maxRecDepth 100000 in
set_option maxHeartbeats 4000000 in
theorem l01Next_any (p : Nat) (n : Int) (w : World) (h : Src w p) (hn : n ≤ 4611686018427387904) :
    Calls Tryz.prog 31 #[.pointer (some ⟨p, 0, none⟩), .int .i64 n] w (NextPost p n w) := by
  by_cases hn1 : n ≤ 1
  · go_enter Tryz.func31, Tryz.ntmps31
    go_wp2
    go_ret
    exact ⟨0, rfl, by omega, .inr rfl, h, grown_refl _ _⟩
  · obtain ⟨A, N, c, bs, a, s, S⟩ := h
    have c0 := S.c0
    have c1 := S.c1
    have c2 := S.c2
    have f1 := S.f0 1
    have f2 := S.f0 2
    have s0 := S.s0
    have s1 := S.s1
    have hpl := S.lt
    have a0 := S.a0
    have a1 := S.a1
    have hNm := S.by_.2.cap
    have hNc := S.by_.2.le
    unfold maxLen at hNm
    have v0 : 0 ≤ (s * 48271 + 29) % 2147483647 := by omega
    have v1 : (s * 48271 + 29) % 2147483647 < 2147483647 := by omega
    have HS := Lib.hid (S.seed ((s * 48271 + 29) % 2147483647) v0 v1)
    have HG := Lib.hid (grown_set w p 2 (.int .i64 ((s * 48271 + 29) % 2147483647)))
    go_enter Tryz.func31, Tryz.ntmps31
    go_upto_region 5 with fail
    generalize (s * 48271 + 29) % 2147483647 = v at *
    have S1 := HS.out
    have G1 := HG.out
    clear c0 c1 c2 f1 f2 S HS HG s0 s1 hpl
    generalize w.setCell ⟨p, 2, none⟩ (.int .i64 v) = W at *
    have d0 := S1.c0
    have d1 := S1.c1
    have f1 := S1.f0 1
    have hpl := S1.lt
    by_cases ha : a < N
    · obtain ⟨k, rfl⟩ : ∃ k : Nat, a = k := ⟨a.toNat, by omega⟩
      have hk : k < N := by omega
      obtain ⟨b, off, rfl, hbl⟩ := S1.by_.at_ k hk
      obtain ⟨u, hu⟩ := S1.by_.el k hk
      have hu2 : u.toNat < 256 := u.toNat_lt
      have e1 : IntKind.i64.wrap (v / 31 + (u.toNat : Int)) = v / 31 + u.toNat := IntWalk.i64_in _ (by omega)
      refine wp_region_later (by kernel_rfl) (by kernel_rfl) ?_
      repeat (go_big_quiet_step (fail))
      refine wpQuiet_nil ?_
      intro w2 hw2; have h2 := later_below hw2; clear hw2
      have hc_w2 := bcell h2; have hf_w2 := bfree h2
      have hz_w2_0 : p < w2.heap.size := by have hz_ := h2.size; (try simp at hz_); omega
      have hz_w2_1 : b < w2.heap.size := by have hz_ := h2.size; (try simp at hz_); omega
      go_wp2_with fail
      refine wp_region_later (by kernel_rfl) (by kernel_rfl) ?_
      repeat (go_big_quiet_step (fail))
      refine wpQuiet_nil ?_
      intro w3 hw2; have h3 := later_below hw2; clear hw2
      have hc_w3 := bcell h3; have hf_w3 := bfree h3
      have hz_w3_0 : p < w3.heap.size := by have hz_ := h3.size; (try simp at hz_); omega
      have hz_w3_1 : b < w3.heap.size := by have hz_ := h3.size; (try simp at hz_); omega
      have S3 := (S1.below h2).below h3
      have HS4 := Lib.hid (S3.step ((k : Int) + 1) (by omega) (by omega))
      have HG4 := Lib.hid (grown_trans (grown_trans (grown_trans G1 (grown_below h2)) (grown_below h3)) (grown_set w3 p 1 (.int .i64 ((k : Int) + 1))))
      clear S1 S3 G1
      by_cases h256 : n ≤ 256
      · by_cases hev : ((k : Int) + 1) % 2 = 0
        · go_upto_region 9 with fail
          generalize hW4 : w3.setCell ⟨p, 1, none⟩ (.int .i64 ((k : Int) + 1)) = W4 at *
          clear hW4
          have S4 := HS4.out
          have G4 := HG4.out
          have k0 := S4.c0
          have k1 := S4.c1
          have hp4 := S4.lt
          obtain ⟨u2, hu3⟩ := S4.by_.el k hk
          have hb4 : b < W4.heap.size := Nat.lt_trans (S4.bl (by omega) b off rfl) hp4
          have hu4 : u2.toNat < 256 := u2.toNat_lt
          have e2 : IntKind.i64.wrap ((k : Int) + 1 - 1) = k := by rw [IntWalk.i64_in _ (by omega)]; omega
          have e3 : (k : Int) + 1 - 1 = k := by omega
          clear HS4 HG4
          refine wp_region_later (by kernel_rfl) (by kernel_rfl) ?_
          repeat (go_big_quiet_step (fail))
          refine wpQuiet_nil ?_
          intro w5 hw2; have h5 := later_below hw2; clear hw2
          have hc_w5 := bcell h5; have hf_w5 := bfree h5
          have hz_w5_0 : p < w5.heap.size := by have hz_ := h5.size; (try simp at hz_); omega
          have hz_w5_1 : b < w5.heap.size := by have hz_ := h5.size; (try simp at hz_); omega
          have S5 := S4.below h5
          have G5 := grown_trans G4 (grown_below h5)
          go_wp2
          go_ret
          exact ⟨_, rfl, Int.emod_nonneg _ (by omega), .inl (Int.emod_lt_of_pos _ (by omega)), ⟨_, _, _, _, _, _, S5⟩, G5⟩
        · have hod : ((k : Int) + 1) % 2 = 1 := by omega
          go_wp2
          go_ret
          exact ⟨_, rfl, Int.emod_nonneg _ (by omega), .inl (Int.emod_lt_of_pos _ (by omega)), ⟨_, _, _, _, _, _, HS4.out⟩, HG4.out⟩
      · go_wp2
        go_ret
        exact ⟨_, rfl, Int.emod_nonneg _ (by omega), .inl (Int.emod_lt_of_pos _ (by omega)), ⟨_, _, _, _, _, _, HS4.out⟩, HG4.out⟩
    · obtain rfl : a = N := by omega
      refine wp_region_later (by kernel_rfl) (by kernel_rfl) ?_
      repeat (go_big_quiet_step (fail))
      refine wpQuiet_nil ?_
      intro w2 hw2; have h2 := later_below hw2; clear hw2
      have hc_w2 := bcell h2; have hf_w2 := bfree h2
      have hz_w2_0 : p < w2.heap.size := by have hz_ := h2.size; (try simp at hz_); omega
      have S2 := S1.below h2
      have G2 := grown_trans G1 (grown_below h2)
      go_wp2
      go_ret
      exact ⟨_, rfl, Int.emod_nonneg _ (by omega), .inl (Int.emod_lt_of_pos _ (by omega)), ⟨_, _, _, _, _, _, S2⟩, G2⟩
end Go.Proofs.YtpnbbhomkneflaaGreatDoor
namespace Go.Proofs.YtpnbbhomkneflaaGreatDoor
open Go.ChangeShapes Go.WideShapes Go.ChangeAt Go.RowKit
theorem grown_cell {w w' : World} {row : Option Nat} (h : w.grownBy w' row) {a : Addr} {v : Value} (hc : w.cell? a = some v) (hne : row ≠ some a.block) : w'.cell? a = some v :=
  (h.cell_far a (World.block_lt_of_cell? w _ hc) (fun e => hne e.symm)).trans hc
theorem own_far {w w' : World} {row : Option Nat} {base : Nat} {e : TypeId} {size : Nat} {v : Value} {n : Nat} {xs : List Value} (h : w.ownsRow base e size v n xs) (hg : w.grownBy w' row) (hne : ∀ k, v.ownBlock = some k → row ≠ some k) : w'.ownsRow base e size v n xs :=
  own_block h fun k hk => hg.block k (h.lt k hk).2 (fun e => hne k hk e.symm)
theorem below_own {B : Nat} {a w w' : World} {row : Option Nat} (h : Below B a w) (hg : w.grownBy w' row) (hB : B ≤ a.heap.size) (hgB : ∀ k, row = some k → B ≤ k) : Below B a w' :=
  h.grown hg (Nat.le_trans hB h.size) hgB
end Go.Proofs.YtpnbbhomkneflaaGreatDoor
namespace Go.Proofs.YtpnbbhomkneflaaGreatDoor
open Go.ChangeShapes Go.WideShapes Go.ChangeAt Go.RowKit

/-- a list of texts in memory, each of at most B bytes -/
def Parts (w : World) (g n B : Nat) : Prop := ∀ k, k < n → ∃ t : ByteArray, w.cell? ⟨g, k, none⟩ = some (.string t) ∧ t.size ≤ B
theorem Parts.grown {w w' : World} {p g n B : Nat} (h : Parts w g n B) (hg : w.grownBy w' (some p)) (hne : p ≠ g) : Parts w' g n B := fun k hk => by
  obtain ⟨t, ht, hb⟩ := h k hk
  exact ⟨t, grown_cell hg ht (by simpa using hne), hb⟩
theorem Parts.below {w w' : World} {g n B : Nat} (h : Parts w g n B) (hb : Below w.heap.size w w') : Parts w' g n B := fun k hk => by
  obtain ⟨t, ht, hB⟩ := h k hk
  exact ⟨t, cell_keep hb ht, hB⟩
theorem parts_alloc (w : World) (L : List ByteArray) (t : TypeId) (B : Nat) (hL : ∀ x ∈ L, x.size ≤ B) : Parts (w.alloc (.cells (L.map Value.string).toArray t)) w.heap.size L.length B := fun k hk =>
  ⟨L[k], by go_simp, hL _ (List.getElem_mem hk)⟩
/-- what a draw of a text returns -/
def TextPost (p B : Nat) (w : World) (e : Ending) (w' : World) : Prop := ∃ t : ByteArray, e = .returned (.string t) ∧ t.size ≤ B ∧ Src w' p ∧ w.grownBy w' (some p)
theorem box1 (w : World) (x : Obj) : Below w.heap.size w (w.alloc x) := (Below.refl _ _).alloc (Nat.le_refl _) _
theorem Src.lt {w : World} {p : Nat} (h : Src w p) : p < w.heap.size := by
  obtain ⟨_, _, _, _, _, _, h⟩ := h
  exact h.lt
set_option maxRecDepth 100000 in
set_option maxHeartbeats 2000000 in
theorem l01Good_any (p : Nat) (w : World) (h : Src w p) : Calls Tryz.prog 58 #[.pointer (some ⟨p, 0, none⟩)] w (TextPost p 12 w) := by
  have hp := h.lt
  go_enter Tryz.func58, Tryz.ntmps58
  have P0 := parts_alloc w [⟨#[97, 115, 104]⟩, ⟨#[102, 111, 114, 100]⟩, ⟨#[116, 111, 110]⟩, ⟨#[98, 121]⟩, ⟨#[107, 105, 114, 107]⟩, ⟨#[104, 97, 114]⟩, ⟨#[119, 105, 99, 107]⟩, ⟨#[101, 108, 121]⟩, ⟨#[111, 115]⟩, ⟨#[108, 111]⟩, ⟨#[98, 114, 105, 103]⟩, ⟨#[109, 97]⟩, ⟨#[114, 105]⟩, ⟨#[110, 97]⟩, ⟨#[115, 116]⟩, ⟨#[97, 101]⟩] 9 4 (by decide)
  replace P0 : Parts _ w.heap.size 16 4 := P0
  have S0 := h.below (box1 w (.cells #[.string ⟨#[97, 115, 104]⟩, .string ⟨#[102, 111, 114, 100]⟩, .string ⟨#[116, 111, 110]⟩, .string ⟨#[98, 121]⟩, .string ⟨#[107, 105, 114, 107]⟩, .string ⟨#[104, 97, 114]⟩, .string ⟨#[119, 105, 99, 107]⟩, .string ⟨#[101, 108, 121]⟩, .string ⟨#[111, 115]⟩, .string ⟨#[108, 111]⟩, .string ⟨#[98, 114, 105, 103]⟩, .string ⟨#[109, 97]⟩, .string ⟨#[114, 105]⟩, .string ⟨#[110, 97]⟩, .string ⟨#[115, 116]⟩, .string ⟨#[97, 101]⟩] 9))
  go_wp2_with fail
  refine (l01Next_any p 3 _ S0 (by omega)).mono ?_
  rintro e_ w1 ⟨r, rfl, r0, r1, S1, g1⟩
  have P1 := P0.grown g1 (by omega)
  have e1 : IntKind.i64.wrap (1 + r) = 1 + r := IntWalk.i64_in _ (by omega)
  go_wp2
  have G1 := Lib.hid (grown_trans (grown_below (box1 w (.cells #[.string ⟨#[97, 115, 104]⟩, .string ⟨#[102, 111, 114, 100]⟩, .string ⟨#[116, 111, 110]⟩, .string ⟨#[98, 121]⟩, .string ⟨#[107, 105, 114, 107]⟩, .string ⟨#[104, 97, 114]⟩, .string ⟨#[119, 105, 99, 107]⟩, .string ⟨#[101, 108, 121]⟩, .string ⟨#[111, 115]⟩, .string ⟨#[108, 111]⟩, .string ⟨#[98, 114, 105, 103]⟩, .string ⟨#[109, 97]⟩, .string ⟨#[114, 105]⟩, .string ⟨#[110, 97]⟩, .string ⟨#[115, 116]⟩, .string ⟨#[97, 101]⟩] 9)) (row := some p)) g1)
  obtain ⟨q, hq⟩ : ∃ q : Nat, 1 + r = q := ⟨(1 + r).toNat, by omega⟩
  have hq3 : q ≤ 3 := by omega
  rw [hq]
  clear hq r0 r1 e1 P0 S0 g1
  have HS := Lib.hid (And.intro S1 P1)
  clear S1 P1
  go_loopw [4, 5] (fun ov i wr => ∃ (k : Nat) (t : ByteArray), k ≤ q ∧ i = .int .i64 k ∧ ov = .string t ∧ Hid (t.size + 4 * k ≤ 12) ∧ Hid (Src wr p ∧ Parts wr w.heap.size 16 4) ∧ Hid (w.grownBy wr (some p))) (fun _ i _ => (intOf i).toNat)
  case atStart => exact ⟨q, ⟨#[]⟩, Nat.le_refl _, rfl, rfl, Lib.hid (show (0 : Nat) + 4 * q ≤ 12 by omega), HS, G1⟩
  case round =>
    clear HS G1
    obtain ⟨k, t, hk, rfl, rfl, ht, hs, hg⟩ := hrel
    by_cases hlt : 0 < k
    · have hj0 : (0 : Int) < (k : Int) := by omega
      go_wp2_with fail
      refine (l01Next_any p 16 _ hs.out.1 (by omega)).mono ?_
      rintro e_ w2 ⟨r, rfl, r0, r1, S2, g2⟩
      have P2 := hs.out.2.grown g2 (by omega)
      have G2 := Lib.hid (grown_trans hg.out g2)
      obtain ⟨j, rfl⟩ : ∃ j : Nat, r = j := ⟨r.toNat, by omega⟩
      obtain ⟨x, hx, hx4⟩ := P2 j (by omega)
      have HS2 := Lib.hid (And.intro S2 P2)
      have hT := Lib.hid (show (t ++ x).size + 4 * (k - 1) ≤ 12 by have := ht.out; rw [ByteArray.size_append]; omega)
      have e1 : IntKind.i64.wrap ((k : Int) - 1) = ((k - 1 : Nat) : Int) := by rw [IntWalk.i64_in _ (by omega)]; omega
      have j1 : (j : Int) < 16 := by omega
      have ht2 : t.size ≤ 12 := by have := ht.out; omega
      clear S2 P2 hs hg ht g2
      go_wp2
      go_roundw
      case rel => exact ⟨k - 1, _, by omega, by first | rfl | go_num, rfl, hT, HS2, G2⟩
      case measure => simp [intOf]; omega
    · obtain rfl : k = 0 := by omega
      go_wp2
      go_ret
      exact ⟨t, rfl, by have := ht.out; omega, hs.out.1, hg.out⟩
set_option maxRecDepth 100000 in
set_option maxHeartbeats 2000000 in
theorem l01DrawWord_any (p : Nat) (w : World) (h : Src w p) : Calls Tryz.prog 53 #[.pointer (some ⟨p, 0, none⟩)] w (TextPost p 17 w) := by
  have hp := h.lt
  go_enter Tryz.func53, Tryz.ntmps53
  go_wp2_with fail
  refine (l01Next_any p 30 _ h (by omega)).mono ?_
  rintro e_ w1 ⟨r, rfl, r0, r1, S1, g1⟩
  have hz1 := g1.size
  by_cases hr : r = 0
  · subst hr
    go_wp2_with fail
    have P0 := parts_alloc w1 [⟨#[]⟩, ⟨#[70, 111, 114, 100]⟩, ⟨#[97, 49]⟩, ⟨#[97, 98, 99, 100, 101, 102, 103, 104, 105, 106, 107, 108, 109, 110, 111, 112]⟩, ⟨#[97, 98, 99, 100, 101, 102, 103, 104, 105, 106, 107, 108, 109, 110, 111, 112, 113]⟩, ⟨#[97, 32, 98]⟩] 9 17 (by decide)
    replace P0 : Parts _ w1.heap.size 6 17 := P0
    have HB := box1 w1 (.cells ([⟨#[]⟩, ⟨#[70, 111, 114, 100]⟩, ⟨#[97, 49]⟩, ⟨#[97, 98, 99, 100, 101, 102, 103, 104, 105, 106, 107, 108, 109, 110, 111, 112]⟩, ⟨#[97, 98, 99, 100, 101, 102, 103, 104, 105, 106, 107, 108, 109, 110, 111, 112, 113]⟩, ⟨#[97, 32, 98]⟩].map Value.string).toArray 9)
    refine (l01Next_any p 6 _ (S1.below HB) (by omega)).mono ?_
    rintro e_ w2 ⟨r, rfl, r0, r1, S2, g2⟩
    have P2 := P0.grown g2 (by omega)
    have G2 := grown_trans (grown_trans g1 (grown_below HB)) g2
    obtain ⟨j, rfl⟩ : ∃ j : Nat, r = j := ⟨r.toNat, by omega⟩
    obtain ⟨x, hx, hx4⟩ := P2 j (by omega)
    have j1 : (j : Int) < 6 := by omega
    go_wp2
    go_ret
    exact ⟨x, rfl, hx4, S2, G2⟩
  · have hr2 : (r == 0) = false := by simpa using hr
    go_wp2_with fail
    refine (l01Good_any p _ S1).mono ?_
    rintro e_ w2 ⟨t, rfl, ht, S2, g2⟩
    go_wp2
    go_ret
    exact ⟨t, rfl, by omega, S2, grown_trans g1 g2⟩
end Go.Proofs.YtpnbbhomkneflaaGreatDoor
namespace Go.Proofs.YtpnbbhomkneflaaGreatDoor
open Go.ChangeShapes Go.WideShapes Go.ChangeAt Go.RowKit

theorem ints_alloc (w : World) (L : List Int) (t : TypeId) (hl : L.length ≤ maxLen) :
    Ints (w.alloc (.cells (L.map (Value.int .i64)).toArray t)) (some ⟨w.heap.size, 0, none⟩) L.length L.length L :=
  ⟨rfl, ⟨Nat.le_refl _, hl, by simp, fun _ => ⟨w.heap.size, 0, rfl, by simp, fun j u hu => by
    rw [Nat.zero_add]
    go_simp⟩⟩⟩
/-- what a draw of a number returns -/
def IntPost (p : Nat) (w : World) (e : Ending) (w' : World) : Prop := ∃ r : Int, e = .returned (.int .i64 r) ∧ Src w' p ∧ w.grownBy w' (some p)
/-- what a pick returns: one of the numbers -/
def PickPost (p : Nat) (xs : List Int) (w : World) (e : Ending) (w' : World) : Prop := ∃ r : Int, e = .returned (.int .i64 r) ∧ r ∈ xs ∧ Src w' p ∧ w.grownBy w' (some p)
set_option maxRecDepth 100000 in
set_option maxHeartbeats 1000000 in
theorem l01Pick_any (p g n c : Nat) (xs : List Int) (w : World) (h : Src w p) (hx : Ints w (some ⟨g, 0, none⟩) n c xs) (hn : 0 < n) (hnn : n ≤ 1000) (hg : p ≠ g) :
    Calls Tryz.prog 38 #[.pointer (some ⟨p, 0, none⟩), .slice (some ⟨g, 0, none⟩) n c] w (PickPost p xs w) := by
  have hcm := hx.2.cap
  have hnc := hx.2.le
  unfold maxLen at hcm
  go_enter Tryz.func38, Tryz.ntmps38
  go_wp2_with fail
  refine (l01Next_any p n _ h (by omega)).mono ?_
  rintro e_ w1 ⟨r, rfl, r0, r1, S1, g1⟩
  obtain ⟨j, rfl⟩ : ∃ j : Nat, r = j := ⟨r.toNat, by omega⟩
  have hj : j < n := by omega
  obtain ⟨b, off, e, hbl⟩ := hx.at_ j hj
  injection e with e
  injection e with e1 e2
  subst e1; subst e2
  obtain ⟨s, hs, c0⟩ := hx.el (Below.refl _ _) hbl j hj
  rw [Nat.zero_add] at c0
  have c1 := grown_cell g1 c0 (by simpa using hg)
  have hj2 : (j : Int) < n := by omega
  go_wp2
  go_ret
  exact ⟨s, rfl, List.mem_of_getElem? hs.out, S1, g1⟩
theorem lit8 (j : Nat) (h : j < 8) : ∃ x : ByteArray, ([Value.string ⟨#[48]⟩, Value.string ⟨#[35]⟩, Value.string ⟨#[46]⟩, Value.string ⟨#[47]⟩, Value.string ⟨#[32]⟩, Value.string ⟨#[97]⟩, Value.string ⟨#[45]⟩, Value.string ⟨#[10]⟩] : List Value)[j]'h = .string x ∧ x.size ≤ 1 := by
  match j, h with
  | 0, _ => exact ⟨_, rfl, by decide⟩
  | 1, _ => exact ⟨_, rfl, by decide⟩
  | 2, _ => exact ⟨_, rfl, by decide⟩
  | 3, _ => exact ⟨_, rfl, by decide⟩
  | 4, _ => exact ⟨_, rfl, by decide⟩
  | 5, _ => exact ⟨_, rfl, by decide⟩
  | 6, _ => exact ⟨_, rfl, by decide⟩
  | 7, _ => exact ⟨_, rfl, by decide⟩
set_option maxRecDepth 100000 in
set_option maxHeartbeats 2000000 in
theorem l01Damage_any (p : Nat) (t : ByteArray) (w : World) (h : Src w p) (ht : t.size ≤ 100000) : Calls Tryz.prog 39 #[.pointer (some ⟨p, 0, none⟩), .string t] w (TextPost p (t.size + 1) w) := by
  have e0 : IntKind.i64.wrap ((t.size : Int) + 1) = t.size + 1 := IntWalk.i64_in _ (by omega)
  go_enter Tryz.func39, Tryz.ntmps39
  go_wp2_with fail
  refine (l01Next_any p (t.size + 1) _ h (by omega)).mono ?_
  rintro e_ w1 ⟨k, rfl, k0, k1, S1, g1⟩
  obtain ⟨q, rfl⟩ : ∃ q : Nat, k = q := ⟨k.toNat, by omega⟩
  have hq : q ≤ t.size := by omega
  have hq2 : (q : Int) ≤ t.size := by omega
  go_wp2_with fail
  refine (l01Next_any p 8 _ S1 (by omega)).mono ?_
  rintro e_ w2 ⟨r, rfl, r0, r1, S2, g2⟩
  have G2 := grown_trans g1 g2
  have zq : (t.extract 0 q).size ≤ t.size := by simp; omega
  have zr : (t.extract q t.size).size ≤ t.size := by simp
  by_cases hr0 : r = 0
  · subst hr0
    go_wp2
    go_ret
    exact ⟨_, rfl, by omega, S2, G2⟩
  · have d0 : (r == 0) = false := by simpa using hr0
    have d0' : ((0 : Int) == r) = false := by simpa using fun e => hr0 e.symm
    by_cases hr1 : r = 1
    · subst hr1
      go_wp2_with fail
      have hz2 : p < w2.heap.size := S2.lt
      (go_region_with (first
        | (go_at_call 31; refine (l01Next_any p 8 _ (by first | exact S2.below (Below.refl _ _).drew | exact (S2.below (Below.refl _ _).drew).below (box1 _ _)) (by omega)).mono ?_; rintro e_ w6 ⟨r6, rfl, r60, r61, S6, g6⟩; have hz6 := g6.size; have hj : ∃ j : Nat, r6 = j := ⟨r6.toNat, by omega⟩; obtain ⟨j, rfl⟩ := hj; have j3 : j < 8 := (by omega); have j4 : (j : Int) < 8 := (by omega); have hv := lit8 j j3; obtain ⟨xv, hv, hv2⟩ := hv; first | (have hx0 := ((show Parts (w2.drew.alloc (.cells ([⟨#[48]⟩, ⟨#[35]⟩, ⟨#[46]⟩, ⟨#[47]⟩, ⟨#[32]⟩, ⟨#[97]⟩, ⟨#[45]⟩, ⟨#[10]⟩].map Value.string).toArray 9)) w2.heap.size 8 1 from parts_alloc w2.drew [⟨#[48]⟩, ⟨#[35]⟩, ⟨#[46]⟩, ⟨#[47]⟩, ⟨#[32]⟩, ⟨#[97]⟩, ⟨#[45]⟩, ⟨#[10]⟩] 9 1 (by decide)).grown g6 (by omega)) j j3; obtain ⟨x, hx, hx2⟩ := hx0) | skip)))
      · go_wp2
        go_ret
        first
        | exact ⟨_, rfl, by simp; omega, S6, grown_trans (grown_trans (grown_trans G2 (grown_below (Below.refl _ _).drew)) (grown_below (box1 _ _))) g6⟩
        | exact ⟨_, rfl, by simp; omega, S6.below (box1 _ _), grown_trans (grown_trans (grown_trans G2 (grown_below (Below.refl _ _).drew)) g6) (grown_below (box1 _ _))⟩
      · go_wp2
        go_ret
        first
        | exact ⟨_, rfl, by simp; omega, S6, grown_trans (grown_trans (grown_trans G2 (grown_below (Below.refl _ _).drew)) (grown_below (box1 _ _))) g6⟩
        | exact ⟨_, rfl, by simp; omega, S6.below (box1 _ _), grown_trans (grown_trans (grown_trans G2 (grown_below (Below.refl _ _).drew)) g6) (grown_below (box1 _ _))⟩
    · have d1 : (r == 1) = false := by simpa using hr1
      have d1' : ((1 : Int) == r) = false := by simpa using fun e => hr1 e.symm
      by_cases hr2 : r = 2
      · subst hr2
        have e1 : IntKind.i64.wrap ((q : Int) + 1) = ((q + 1 : Nat) : Int) := by rw [IntWalk.i64_in _ (by omega)]; omega
        have zr2 : (t.extract (q + 1) t.size).size ≤ t.size := by simp
        by_cases hlt : q < t.size
        · have hlt2 : (q : Int) < t.size := by omega
          have zc : (t.extract 0 q ++ t.extract (q + 1) t.size).size ≤ t.size := by simp; omega
          have hlt3 : ((q + 1 : Nat) : Int) ≤ t.size := by omega
          have hlt4 : (q : Int) + 1 ≤ t.size := by omega
          go_wp2_with fail
          (go_region_with (go_at_call 31; skip))
          go_wp2
          go_ret
          exact ⟨_, rfl, by omega, S2.below (Below.refl _ _).drew, grown_trans G2 (grown_below (Below.refl _ _).drew)⟩
        · have hlt2 : ¬ (q : Int) < t.size := by omega
          go_wp2
          go_ret
          exact ⟨t, rfl, by omega, S2, G2⟩
      · have d2 : (r == 2) = false := by simpa using hr2
        have d2' : ((2 : Int) == r) = false := by simpa using fun e => hr2 e.symm
        go_wp2
        go_ret
        exact ⟨t, rfl, by omega, S2, G2⟩
end Go.Proofs.YtpnbbhomkneflaaGreatDoor
namespace Go.Proofs.YtpnbbhomkneflaaGreatDoor
open Go.ChangeShapes Go.WideShapes Go.ChangeAt Go.RowKit

def repl (xs : List ByteArray) (old word : ByteArray) : List ByteArray := xs.map fun x => if x = old then word else x
def mid (xs : List ByteArray) (old word : ByteArray) (k : Nat) : List ByteArray := repl (xs.take k) old word ++ xs.drop k
theorem repl_len (xs : List ByteArray) (old word : ByteArray) : (repl xs old word).length = xs.length := by simp [repl]
theorem repl_at {xs : List ByteArray} (old word : ByteArray) {k : Nat} {x : ByteArray} (h : xs[k]? = some x) : repl (xs.take (k + 1)) old word = repl (xs.take k) old word ++ [if x = old then word else x] := by
  unfold repl
  rw [List.take_add_one, h]
  simp
theorem mid_zero (xs : List ByteArray) (old word : ByteArray) : mid xs old word 0 = xs := by simp [mid, repl]
theorem mid_end {xs : List ByteArray} (old word : ByteArray) {k : Nat} (h : xs.length ≤ k) : mid xs old word k = repl xs old word := by
  unfold mid
  rw [List.take_of_length_le h, List.drop_eq_nil_of_le h, List.append_nil]
theorem mid_len (xs : List ByteArray) (old word : ByteArray) (k : Nat) : (mid xs old word k).length = xs.length := by
  unfold mid
  rw [List.length_append, repl_len, ← List.length_append, List.take_append_drop]
theorem mid_at {xs : List ByteArray} (old word : ByteArray) {k : Nat} {x : ByteArray} (h : xs[k]? = some x) : (mid xs old word k)[k]? = some x := by
  obtain ⟨hk, e⟩ := List.getElem?_eq_some_iff.1 h
  unfold mid
  have hl : (repl (xs.take k) old word).length = k := by rw [repl_len, List.length_take]; omega
  rw [List.getElem?_append_right (by omega), hl, Nat.sub_self, List.getElem?_drop]
  simpa using h
theorem mid_set {xs : List ByteArray} (old word : ByteArray) {k : Nat} {x : ByteArray} (h : xs[k]? = some x) : (mid xs old word k).set k (if x = old then word else x) = mid xs old word (k + 1) := by
  obtain ⟨hk, e⟩ := List.getElem?_eq_some_iff.1 h
  have hl : (repl (xs.take k) old word).length = k := by rw [repl_len, List.length_take]; omega
  unfold mid
  have ed : xs.drop k = x :: xs.drop (k + 1) := by rw [List.drop_eq_getElem_cons hk, e]
  rw [repl_at old word h, List.set_append_right _ _ (by omega), hl, Nat.sub_self, ed]
  simp
theorem mid_keep {xs : List ByteArray} (old word : ByteArray) {k : Nat} {x : ByteArray} (h : xs[k]? = some x) (hx : ¬ x = old) : mid xs old word k = mid xs old word (k + 1) := by
  rw [← mid_set old word h, if_neg hx]
  apply List.ext_getElem?
  intro i
  by_cases e : i = k
  · subst e
    have hk := (List.getElem?_eq_some_iff.1 h).1
    rw [mid_at old word h, List.getElem?_set_self (by rw [mid_len]; exact hk)]
  · rw [List.getElem?_set_ne (fun h => e h.symm)]
theorem total_le {xs : List ByteArray} {B : Nat} (h : ∀ x ∈ xs, x.size ≤ B) : total xs ≤ xs.length * B := by
  induction xs with
  | nil => simp [total]
  | cons x r ih =>
    have h1 := ih (fun y hy => h y (by simp [hy]))
    have h2 := h x (by simp)
    unfold total at h1 ⊢
    rw [List.map_cons, List.sum_cons, List.length_cons, Nat.add_mul]
    omega
theorem repl_each {xs : List ByteArray} {old word : ByteArray} {B : Nat} (h : ∀ x ∈ xs, x.size ≤ B) (hw : word.size ≤ B) : ∀ x ∈ repl xs old word, x.size ≤ B := by
  intro y hy
  obtain ⟨x, hx, rfl⟩ := List.mem_map.1 hy
  show (if x = old then word else x).size ≤ B
  split
  · exact hw
  · exact h x hx

theorem repl_total {xs : List ByteArray} {old word : ByteArray} (h8 : xs.length ≤ 8) (h : ∀ x ∈ repl xs old word, x.size ≤ 1048576) : total (repl xs old word) + (repl xs old word).length ≤ 1000000000000 := by
  have h1 := total_le h
  rw [repl_len] at h1 ⊢
  omega
/-- ReplaceWord's answer -/
def rwOk (s old word : ByteArray) : Bool := isPhrase s && isWord old && isWord word
def hasW (xs : List ByteArray) (old : ByteArray) : Bool := xs.any fun x => decide (x = old)
def rwHas (s old : ByteArray) : Bool := hasW (cutS 32 s) old
def rwCode (s old word : ByteArray) : Int := if rwOk s old word = true then if rwHas s old = true then 0 else 4 else 1
def rwText (s old word : ByteArray) : ByteArray := if rwOk s old word = true ∧ rwHas s old = true then joined (repl (cutS 32 s) old word) else ⟨#[]⟩
theorem rw_no {s old word : ByteArray} (h : rwOk s old word = false) : Hid (rwText s old word = ⟨#[]⟩ ∧ rwCode s old word = 1) := by
  unfold Hid rwText rwCode
  rw [h]
  exact ⟨rfl, rfl⟩
theorem rw_miss {s old word : ByteArray} (h : rwOk s old word = true) (hh : rwHas s old = false) : Hid (rwText s old word = ⟨#[]⟩ ∧ rwCode s old word = 4) := by
  unfold Hid rwText rwCode
  rw [h, hh]
  exact ⟨rfl, rfl⟩
theorem rw_hit {s old word : ByteArray} (h : rwOk s old word = true) (hh : rwHas s old = true) : Hid (rwText s old word = joined (repl (cutS 32 s) old word) ∧ rwCode s old word = 0) := by
  unfold Hid rwText rwCode
  rw [h, hh]
  exact ⟨rfl, rfl⟩
theorem has_eq {xs : List ByteArray} {k : Nat} {old : ByteArray} (h : xs[k]? = some old) : hasW (xs.take (k + 1)) old = true := by
  unfold hasW
  rw [List.take_add_one, h]
  simp
theorem has_ne {xs : List ByteArray} {k : Nat} {x old : ByteArray} {b : Bool} (h : xs[k]? = some x) (hn : ¬ x = old) (hb : b = hasW (xs.take k) old) : b = hasW (xs.take (k + 1)) old := by
  rw [hb]
  unfold hasW
  rw [List.take_add_one, h]
  simp [hn]

end Go.Proofs.YtpnbbhomkneflaaGreatDoor
namespace Go.Proofs.YtpnbbhomkneflaaGreatDoor
open Go.ChangeShapes Go.WideShapes Go.ChangeAt Go.RowKit

theorem Src.grownP {w w' : World} {p : Nat} {row : Option Nat} (h : Src w p) (hg : w.grownBy w' row) (hne : ∀ k, row = some k → p < k) : Src w' p := by
  obtain ⟨A, n, c, bs, a, s, S⟩ := h
  have hp : row ≠ some p := fun e => by have := hne p e; omega
  refine ⟨A, n, c, bs, a, s, Nat.lt_of_lt_of_le S.lt hg.size, grown_cell hg S.c0 hp, grown_cell hg S.c1 hp, grown_cell hg S.c2 hp, fun j => ?_, S.s0, S.s1, S.a0, S.a1, S.by_.block hg.size fun hn b off e => ?_, S.bl⟩
  · exact (World.frozen?_of_block (hg.block p S.lt (fun e => hp e.symm))).trans (S.f0 j)
  · have := S.bl hn b off e
    exact hg.block b (by have := S.lt; omega) (fun e2 => by have := hne b e2.symm; omega)
theorem own_srcP {w w' : World} {p base : Nat} {e : TypeId} {size : Nat} {v : Value} {n : Nat} {xs : List Value} (h : w.ownsRow base e size v n xs) (hg : w.grownBy w' (some p)) (hb : p < base) : w'.ownsRow base e size v n xs :=
  own_far h hg fun k hk e => by have := (h.lt k hk).1; injection e with e; omega
/-- what grows a block of its own, new behind w, keeps all that was in w but block p -/
theorem grown_own {w W W' : World} {p : Nat} {row : Option Nat} (h : w.grownBy W (some p)) (hg : W.grownBy W' row) (hne : ∀ k, row = some k → w.heap.size ≤ k) : w.grownBy W' (some p) :=
  ⟨hg.os.trans h.os, hg.tape.trans h.tape, hg.output.trans h.output, Nat.le_trans h.size hg.size, fun k hk hkp => (hg.block k (Nat.lt_of_lt_of_le hk h.size) (fun e => by have := hne k e.symm; omega)).trans (h.block k hk hkp)⟩
theorem total_app (xs : List ByteArray) (x : ByteArray) : total (xs ++ [x]) = total xs + x.size := by unfold total; simp
set_option maxRecDepth 100000 in
set_option maxHeartbeats 4000000 in
theorem l01GoodPhrase_any (p : Nat) (w : World) (h : Src w p) : Calls Tryz.prog 37 #[.pointer (some ⟨p, 0, none⟩)] w (TextPost p 60 w) := by
  have hp := h.lt
  obtain ⟨i0, hi, hz0, hz1, hz2⟩ := info_parts infoStr
  go_enter Tryz.func37, Tryz.ntmps37
  go_wp2_with fail
  have HB := box1 w (.cells #[] 9)
  refine (l01Next_any p 3 _ (h.below HB) (by omega)).mono ?_
  rintro e_ w1 ⟨r, rfl, r0, r1, S1, g1⟩
  have O1 := Lib.hid (own_srcP (World.ownsRow_lit (base := w.heap.size) (e := 9) (size := 1) w #[] 0 (Nat.le_refl _) (by unfold maxLen; omega) rfl) g1 hp)
  have G1 := Lib.hid (grown_trans (grown_below HB (row := some p)) g1)
  have e1 : IntKind.i64.wrap (1 + r) = 1 + r := IntWalk.i64_in _ (by omega)
  obtain ⟨q, hq⟩ : ∃ q : Nat, 1 + r = q := ⟨(1 + r).toNat, by omega⟩
  have hq3 : q ≤ 3 := by omega
  rw [hq] at e1
  have HS := Lib.hid S1
  clear HB g1 S1 h
  go_wp2
  clear hq r0 r1 e1
  go_loopw [3, 4] (fun rv i wr => ∃ (k : Nat) (xs : List ByteArray), k ≤ 3 ∧ i = .int .i64 k ∧ Hid (xs.length + k ≤ 3 ∧ ∀ x ∈ xs, x.size ≤ 12) ∧ Hid (Src wr p) ∧ Hid (wr.ownsRow w.heap.size 9 1 rv xs.length (xs.map Value.string)) ∧ Hid (w.grownBy wr (some p))) (fun _ i _ => (intOf i).toNat)
  case atStart => exact ⟨q, [], hq3, by first | rfl | simp [*], Lib.hid ⟨by simp; omega, by simp⟩, HS, O1, G1⟩
  case round =>
    clear HS O1 G1
    obtain ⟨k, xs, hk, rfl, hlen, hS, hO, hG⟩ := hrel
    by_cases hlt : 0 < k
    · have hj0 : (0 : Int) < (k : Int) := by omega
      go_wp2_with fail
      refine (l01Good_any p _ hS.out).mono ?_
      rintro e_ w2 ⟨x, rfl, hx, S2, g2⟩
      have O2 := own_srcP hO.out g2 hp
      have G2 := Lib.hid (grown_trans hG.out g2)
      have hz2' := S2.lt
      have hle := hlen.out
      clear hO hG hS g2
      go_wp2_with (at_builtin; refine wpList_append_own _ rfl _ _ 24 rfl w.heap.size 9 i0 (.string ⟨#[]⟩) 1 16 Tryz.underlying24 hi hz0 hz1 hz2 rfl (by decide) _ _ _ rfl (O2.alloc _) ⟨w2.heap.size, 0, none⟩ 1 1 [.string x] rfl rfl ?c1 ?c2 ?c3 ?c4 ?c5 ?_)
      case c1 => exact cell_one_new _ _ _
      case c2 => simp [Value.oneCell']
      case c3 => unfold maxLen; omega
      case c4 => omega
      case c5 => have := G2.out.size; simp; omega
      intro v4 w4 own4 grow4 _
      have HO : Hid (w4.ownsRow w.heap.size 9 1 v4 (xs ++ [x]).length ((xs ++ [x]).map Value.string)) := Lib.hid (by simpa using own4)
      have HS := Lib.hid ((S2.below (box1 _ _)).grownP grow4 (fun z hz => by have := (O2.lt z hz).1; omega))
      have HG := Lib.hid (grown_own (grown_trans G2.out (grown_below (box1 w2 (.cells #[.string x] 9)))) grow4 (fun z hz => (O2.lt z hz).1))
      have HL := Lib.hid (show (xs ++ [x]).length + (k - 1) ≤ 3 ∧ ∀ y ∈ xs ++ [x], y.size ≤ 12 from ⟨by simp; omega, fun y hy => by
        rcases List.mem_append.1 hy with h | h
        · exact hle.2 y h
        · rw [List.mem_singleton.1 h]; exact hx⟩)
      have e2 : IntKind.i64.wrap ((k : Int) - 1) = ((k - 1 : Nat) : Int) := by rw [IntWalk.i64_in _ (by omega)]; omega
      clear own4 grow4 O2 S2 G2
      go_wp2
      go_roundw
      case rel => exact ⟨k - 1, xs ++ [x], by omega, rfl, HL, HS, HO, HG⟩
      case measure => simp [intOf]; omega
    · obtain rfl : k = 0 := by omega
      have hle := hlen.out
      have ht : total xs ≤ xs.length * 12 := total_le hle.2
      obtain ⟨A, c, rfl, hx⟩ := own_strs hO.out (fun x hx => by have := hle.2 x hx; unfold maxLen; omega)
      have hjs := joined_size xs
      have hw := fun W h => l01Words_any A xs.length c xs W h (by omega)
      obtain ⟨t, htt⟩ : ∃ t, joined xs = t := ⟨_, rfl⟩
      rw [htt] at hw hjs
      clear htt hO
      go_wp2_with fail
      refine (hw _ hx).mono ?_
      rintro e_ w2 ⟨rfl, h2⟩
      go_wp2
      go_ret
      exact ⟨t, rfl, by omega, hS.out.below h2, grown_trans hG.out (grown_below h2)⟩
theorem lit5 (j : Nat) (h : j < 5) : ∃ x : ByteArray, ([Value.string ⟨#[]⟩, Value.string ⟨#[97, 32, 32, 98]⟩, Value.string ⟨#[32, 97]⟩, Value.string ⟨#[97, 32, 98, 32, 99, 32, 100, 32, 101, 32, 102, 32, 103, 32, 104]⟩, Value.string ⟨#[97, 32, 98, 32, 99, 32, 100, 32, 101, 32, 102, 32, 103, 32, 104, 32, 105]⟩] : List Value)[j]'h = .string x ∧ x.size ≤ 17 := by
  match j, h with
  | 0, _ => exact ⟨_, rfl, by decide⟩
  | 1, _ => exact ⟨_, rfl, by decide⟩
  | 2, _ => exact ⟨_, rfl, by decide⟩
  | 3, _ => exact ⟨_, rfl, by decide⟩
  | 4, _ => exact ⟨_, rfl, by decide⟩
set_option maxRecDepth 100000 in
set_option maxHeartbeats 4000000 in
theorem l01DrawPhrase_any (p : Nat) (w : World) (h : Src w p) : Calls Tryz.prog 18 #[.pointer (some ⟨p, 0, none⟩)] w (TextPost p 61 w) := by
  go_enter Tryz.func18, Tryz.ntmps18
  go_wp2_with fail
  refine (l01GoodPhrase_any p _ h).mono ?_
  rintro e_ w1 ⟨t, rfl, ht, S1, g1⟩
  go_wp2_with fail
  refine (l01Next_any p 20 _ S1 (by omega)).mono ?_
  rintro e_ w2 ⟨r, rfl, r0, r1, S2, g2⟩
  have G2 := grown_trans g1 g2
  by_cases hr0 : r = 0
  · subst hr0
    go_wp2_with fail
    refine (l01Damage_any p t _ S2 (by omega)).mono ?_
    rintro e_ w3 ⟨u, rfl, hu, S3, g3⟩
    go_wp2
    go_ret
    exact ⟨u, rfl, by omega, S3, grown_trans G2 g3⟩
  · have d0 : (r == 0) = false := by simpa using hr0
    by_cases hr1 : r = 1
    · subst hr1
      go_wp2_with fail
      have P0 := parts_alloc w2 [⟨#[]⟩, ⟨#[97, 32, 32, 98]⟩, ⟨#[32, 97]⟩, ⟨#[97, 32, 98, 32, 99, 32, 100, 32, 101, 32, 102, 32, 103, 32, 104]⟩, ⟨#[97, 32, 98, 32, 99, 32, 100, 32, 101, 32, 102, 32, 103, 32, 104, 32, 105]⟩] 9 17 (by decide)
      replace P0 : Parts _ w2.heap.size 5 17 := P0
      have HB := box1 w2 (.cells ([⟨#[]⟩, ⟨#[97, 32, 32, 98]⟩, ⟨#[32, 97]⟩, ⟨#[97, 32, 98, 32, 99, 32, 100, 32, 101, 32, 102, 32, 103, 32, 104]⟩, ⟨#[97, 32, 98, 32, 99, 32, 100, 32, 101, 32, 102, 32, 103, 32, 104, 32, 105]⟩].map Value.string).toArray 9)
      have hp2 := S2.lt
      refine (l01Next_any p 5 _ (S2.below HB) (by omega)).mono ?_
      rintro e_ w3 ⟨k, rfl, k0, k1, S3, g3⟩
      have P3 := P0.grown g3 (by omega)
      have G3 := grown_trans (grown_trans G2 (grown_below HB)) g3
      obtain ⟨j, rfl⟩ : ∃ j : Nat, k = j := ⟨k.toNat, by omega⟩
      obtain ⟨x, hx, hx4⟩ := P3 j (by omega)
      have j1 : (j : Int) < 5 := by omega
      go_wp2
      go_ret
      exact ⟨x, rfl, by omega, S3, G3⟩
    · have d1 : (r == 1) = false := by simpa using hr1
      go_wp2
      go_ret
      exact ⟨t, rfl, by omega, S2, G2⟩
/-- what a draw of a text returns -/
def StrPostP (w : World) (e : Ending) (w' : World) : Prop := ∃ t : ByteArray, e = .returned (.string t) ∧ t.size ≤ 100 ∧ Below w.heap.size w w'
theorem below_srcP {a w w' : World} {p : Nat} (h : Below p a w) (hg : w.grownBy w' (some p)) (hp : a.heap.size = p) : Below p a w' :=
  below_own h hg (Nat.le_of_eq hp.symm) (fun k hk => by injection hk with hk; omega)
end Go.Proofs.YtpnbbhomkneflaaGreatDoor
namespace Go.Proofs.YtpnbbhomkneflaaGreatDoor
open Go.ChangeShapes Go.WideShapes Go.ChangeAt Go.RowKit

theorem addr_add (g o j : Nat) : (⟨g, o, none⟩ : Addr).add j = ⟨g, o + j, none⟩ := by simp [Addr.add]
section
variable {P : Program} {w : World}
/-- an append onto a row of the call's own, where a region draws its order -/
theorem step_own_at {ops : Array Oper} {o : Oper} {a : Act} {K : Act → World → Prop} {Q : Exit → Act → World → Prop} {E : Prop} (hgd : o.guard = none) (s x : Operand) (t : TypeId)
    (ho : o.op = .call { callee := .builtin .append, args := #[s, x], argTypes := #[t, t] })
    (base : Nat) (e : TypeId) (i : TypeInfo) (z : Value) (size bytes : Nat) (ht : P.underlying t = some (.slice e)) (hi : P.info? e = some i) (hz : i.zero = some z)
    (hsize : i.size = size) (hby : i.bytes = bytes) (hzs : z.cells.size = size) (hsz : 0 < size)
    (v : Value) (n : Nat) (xs : List Value) (hs : a.eval s = v) (hown : w.ownsRow base e size v n xs)
    (ad : Addr) (m c : Nat) (news : List Value) (hx : a.eval x = .slice (some ad) m c) (hl : news.length = m * size) (hnews : ∀ j u, news[j]? = some u → w.cell? (ad.add j) = some u) (h1 : ∀ u ∈ news, u.oneCell' = true)
    (h63 : n + m ≤ maxLen) (hbytes : (n + m) * bytes ≤ 140737488355328) (hbase : base ≤ w.heap.size)
    (h : ∀ v' w', w'.ownsRow base e size v' (n + m) (xs ++ news) → w.grownBy w' v.ownBlock → K (a.put o.dst v') w') :
    if Region.wanted o (yielded ops a.tmps) = true then Oper.wp P o a w K Q else E := by
  have hw : Region.wanted o (yielded ops a.tmps) = true := by unfold Region.wanted; rw [hgd]
  rw [if_pos hw]
  obtain ⟨v', w', hr, h2, h3, _, _⟩ := run_append_own_at (P := P) w base t o.type e i z size bytes ht hi hz hsize hby hzs hsz v n xs hown ad m c news hl hnews h1 h63 hbytes hbase
  unfold Oper.wp execOp
  simp only [ho, resolve, invoke, builtin, Sem.run_bind, Sem.run_pure, Result.andThen_ok, List.map_toArray, List.map_cons, List.map_nil, hs, hx, hr]
  exact h v' w' h2 h3
end
/-- what a draw of an alphabet returns -/
def AlphaPost (B : Nat) (p : Nat) (w : World) (e : Ending) (w' : World) : Prop := ∃ (v : Value) (xs : List ByteArray), e = .returned v ∧ xs.length ≤ B ∧ (∀ x ∈ xs, x.size ≤ 4) ∧ w'.ownsRow w.heap.size 9 1 v xs.length (xs.map Value.string) ∧ Src w' p ∧ w.grownBy w' (some p)
def AlphaPost1 (B : Nat) (p : Nat) (w : World) (e : Ending) (w' : World) : Prop := ∃ (v : Value) (xs : List ByteArray), e = .returned v ∧ 0 < xs.length ∧ xs.length ≤ B ∧ (∀ x ∈ xs, x.size ≤ 4) ∧ w'.ownsRow w.heap.size 9 1 v xs.length (xs.map Value.string) ∧ Src w' p ∧ w.grownBy w' (some p)
def letters : List ByteArray := [⟨#[97]⟩, ⟨#[98]⟩, ⟨#[101]⟩, ⟨#[102]⟩, ⟨#[104]⟩, ⟨#[105]⟩, ⟨#[107]⟩, ⟨#[108]⟩, ⟨#[109]⟩, ⟨#[110]⟩, ⟨#[111]⟩, ⟨#[114]⟩, ⟨#[115]⟩, ⟨#[116]⟩, ⟨#[119]⟩, ⟨#[121]⟩, ⟨#[100]⟩, ⟨#[103]⟩, ⟨#[99]⟩, ⟨#[115, 104]⟩, ⟨#[115, 116]⟩, ⟨#[99, 104]⟩, ⟨#[97, 101]⟩, ⟨#[107, 105]⟩, ⟨#[102, 111, 114]⟩, ⟨#[116, 111, 110]⟩]
set_option maxRecDepth 100000 in
set_option maxHeartbeats 4000000 in
theorem l03Good_any (p : Nat) (w : World) (h : Src w p) : Calls Tryz.prog 74 #[.pointer (some ⟨p, 0, none⟩)] w (AlphaPost1 26 p w) := by
  have hp := h.lt
  obtain ⟨i0, hi, hz0, hz1, hz2⟩ := info_parts infoStr
  go_enter Tryz.func74, Tryz.ntmps74
  go_wp2
  have HB := box1 w (.cells #[] 9)
  have HB2 := box1 (w.alloc (.cells #[] 9)) (.cells (letters.map Value.string).toArray 9)
  have P0 := parts_alloc (w.alloc (.cells #[] 9)) letters 9 4 (by decide)
  replace P0 : Parts ((w.alloc (.cells #[] 9)).alloc (.cells (letters.map Value.string).toArray 9)) (w.heap.size + 1) 26 4 := by simpa [letters] using P0
  have O0 := own_below (World.ownsRow_lit (base := w.heap.size) (e := 9) (size := 1) w #[] 0 (Nat.le_refl _) (by unfold maxLen; omega) rfl) HB2
  have S0 := (h.below HB).below HB2
  have G0 := grown_trans (grown_below HB (row := some p)) (grown_below HB2)
  have HI := Lib.hid (And.intro S0 P0)
  have HO0 := Lib.hid (And.intro O0 (show (Value.slice (some ⟨w.heap.size, 0, none⟩) 0 0).ownBlock ≠ some (w.heap.size + 1) by simp [Value.ownBlock]))
  have HG0 := Lib.hid (And.intro G0 (show w.heap.size + 1 < ((w.alloc (.cells #[] 9)).alloc (.cells (letters.map Value.string).toArray 9)).heap.size by simp))
  clear S0 P0 O0 G0 HB HB2 h
  go_loopw [3, 5] (fun rv i wr => ∃ (k : Nat) (xs : List ByteArray), k ≤ 26 ∧ i = .int .i64 k ∧ Hid (xs.length ≤ k ∧ ∀ x ∈ xs, x.size ≤ 4) ∧ Hid (Src wr p ∧ Parts wr (w.heap.size + 1) 26 4) ∧ Hid (wr.ownsRow w.heap.size 9 1 rv xs.length (xs.map Value.string) ∧ rv.ownBlock ≠ some (w.heap.size + 1)) ∧ Hid (w.grownBy wr (some p) ∧ w.heap.size + 1 < wr.heap.size)) (fun _ i _ => 26 - (intOf i).toNat)
  case atStart => exact ⟨0, [], by omega, rfl, Lib.hid ⟨by simp, by simp⟩, HI, HO0, HG0⟩
  case round =>
    clear HI HO0 HG0
    obtain ⟨k, xs, hk, rfl, hlen, hS, hO, hG⟩ := hrel
    by_cases hlt : k < 26
    · have hj0 : (k : Int) < 26 := by omega
      go_wp2_with fail
      refine (l01Next_any p 8 _ hS.out.1 (by omega)).mono ?_
      rintro e_ w2 ⟨r, rfl, r0, r1, S2, g2⟩
      have P2 := hS.out.2.grown g2 (by omega)
      have O2 := own_srcP hO.out.1 g2 hp
      have hob := hO.out.2
      have G2 := Lib.hid (And.intro (grown_trans hG.out.1 g2) (show w.heap.size + 1 < w2.heap.size from Nat.lt_of_lt_of_le hG.out.2 g2.size))
      have hle := hlen.out
      clear hO hG hS g2
      by_cases hr : 0 < r
      · obtain ⟨x, hx, hx4⟩ := P2 k hlt
        have HP2 := Lib.hid P2
        clear P2
        go_wp2_with (at_builtin; refine wpList_append_own_at _ rfl _ _ 24 rfl w.heap.size 9 i0 (.string ⟨#[]⟩) 1 16 Tryz.underlying24 hi hz0 hz1 hz2 rfl (by decide) _ _ _ rfl (O2.alloc _) ⟨w2.heap.size, 0, none⟩ 1 1 [.string x] rfl rfl ?c1 ?c2 ?c3 ?c4 ?c5 ?_)
        case c1 => exact cell_one_new _ _ _
        case c2 => simp [Value.oneCell']
        case c3 => unfold maxLen; omega
        case c4 => omega
        case c5 => have := G2.out.2; simp; omega
        intro v4 w4 own4 grow4 _ hlie
        have hz4 := G2.out.2
        have HO : Hid (w4.ownsRow w.heap.size 9 1 v4 (xs ++ [x]).length ((xs ++ [x]).map Value.string) ∧ v4.ownBlock ≠ some (w.heap.size + 1)) := Lib.hid ⟨by simpa using own4, by
          rcases hlie with e | e
          · rw [e]; exact hob
          · rw [e]; simp; omega⟩
        have HS := Lib.hid (And.intro ((S2.below (box1 _ _)).grownP grow4 (fun z hz => by have := (O2.lt z hz).1; omega)) (show Parts w4 (w.heap.size + 1) 26 4 from fun j hj => by
          obtain ⟨y, hy, hy4⟩ := (HP2.out.below (box1 w2 (.cells #[.string x] 9))) j hj
          exact ⟨y, grown_cell grow4 hy (by simpa using hob), hy4⟩))
        have HG := Lib.hid (And.intro (grown_own (grown_trans G2.out.1 (grown_below (box1 w2 (.cells #[.string x] 9)))) grow4 (fun z hz => (O2.lt z hz).1)) (show w.heap.size + 1 < w4.heap.size by have := grow4.size; simp at this; omega))
        have HL := Lib.hid (show (xs ++ [x]).length ≤ k + 1 ∧ ∀ y ∈ xs ++ [x], y.size ≤ 4 from ⟨by simp; omega, fun y hy => by
          rcases List.mem_append.1 hy with h | h
          · exact hle.2 y h
          · rw [List.mem_singleton.1 h]; exact hx4⟩)
        clear own4 grow4 O2 S2 G2 hlie HP2
        go_wp2
        go_roundw
        case rel => exact ⟨k + 1, xs ++ [x], by omega, by go_num, HL, HS, HO, HG⟩
        case measure => simp [intOf]; omega
      · have hr2 : ¬ (0 : Int) < r := hr
        have HL := Lib.hid (show xs.length ≤ k + 1 ∧ ∀ y ∈ xs, y.size ≤ 4 from ⟨by omega, hle.2⟩)
        have HS := Lib.hid (And.intro S2 P2)
        have HO := Lib.hid (And.intro O2 hob)
        clear S2 P2 O2
        go_wp2
        go_roundw
        case rel => exact ⟨k + 1, xs, by omega, by go_num, HL, HS, HO, G2⟩
        case measure => simp [intOf]; omega
    · obtain rfl : k = 26 := by omega
      have hle := hlen.out
      have O2 := hO.out.1
      have S2 := hS.out.1
      have G2 := hG.out
      obtain ⟨A, c, rfl, hx⟩ := own_strs O2 (fun x hx => by have := hle.2 x hx; unfold maxLen; omega)
      clear hO hS hG hlen
      by_cases h0 : 0 < xs.length
      · have hq : ((xs.length : Int) == 0) = false := by rw [beq_eq_false_iff_ne]; omega
        go_wp2_with fail
        refine (l01Next_any p xs.length _ S2 (by omega)).mono ?_
        rintro e_ w3 ⟨r, rfl, r0, r1, S3, g3⟩
        obtain ⟨q, rfl⟩ : ∃ q : Nat, r = q := ⟨r.toNat, by omega⟩
        have x3 := own_strs (own_srcP O2 g3 hp) (fun x hx => by have := hle.2 x hx; unfold maxLen; omega)
        obtain ⟨A', c', hv', x3⟩ := x3
        injection hv' with e1 _ e3
        subst e1; subst e3
        obtain ⟨g, off, rfl, hg⟩ := x3.at_ 0 h0
        have hcell : ∀ j x, xs[j]? = some x → w3.cell? ⟨g, off + j, none⟩ = some (.string x) := fun j x hj => by
          have hjl : j < xs.length := (List.getElem?_eq_some_iff.1 hj).1
          obtain ⟨y, hy, c0, _⟩ := x3.el (Below.refl _ _) hg j hjl
          rw [hj] at hy
          injection hy.out with hy
          rw [hy]
          exact c0
        have hcm := x3.2.1.cap
        have hnc := x3.2.1.le
        unfold maxLen at hcm
        have hql : q ≤ xs.length := by omega
        have hq3 : q < xs.length := by omega
        have hcq : ¬ c = q := by omega
        have hqc : (q : Int) ≤ (c : Int) := by omega
        have oneA : ∀ u ∈ (xs.drop q).map Value.string, u.oneCell' = true := fun u hu => by obtain ⟨x, _, rfl⟩ := List.mem_map.1 hu; rfl
        have oneB : ∀ u ∈ (xs.take q).map Value.string, u.oneCell' = true := fun u hu => by obtain ⟨x, _, rfl⟩ := List.mem_map.1 hu; rfl
        have hgne : w3.heap.size ≠ g := by omega
        have hql2 : (q : Int) ≤ xs.length := by omega
        have ownA : (w3.drew.alloc (.cells #[] 9)).ownsRow w3.heap.size 9 1 (.slice (some ⟨w3.heap.size, 0, none⟩) 0 0) 0 [] := World.ownsRow_lit (base := w3.heap.size) (e := 9) (size := 1) w3.drew #[] 0 (Nat.le_refl _) (by unfold maxLen; omega) rfl
        have newsA : ∀ j u, ((xs.drop q).map Value.string)[j]? = some u → (w3.drew.alloc (.cells #[] 9)).cell? ((⟨g, off + q, none⟩ : Addr).add j) = some u := fun j u hu => by
          rw [List.getElem?_map, List.getElem?_drop] at hu
          obtain ⟨x, hx, rfl⟩ := Option.map_eq_some_iff.1 hu
          have h := hcell _ _ hx
          rw [← Nat.add_assoc] at h
          exact cell_keep (box1 w3.drew (.cells #[] 9)) (show w3.drew.cell? ((⟨g, off + q, none⟩ : Addr).add j) = some (.string x) from by rw [addr_add]; exact h)
        go_wp2_with fail
        (go_region_law (first
          | (refine step_own_at rfl _ _ 24 rfl w3.heap.size 9 i0 (.string ⟨#[]⟩) 1 16 Tryz.underlying24 hi hz0 hz1 hz2 rfl (by decide) _ _ _ rfl ownA _ _ _ ((xs.drop q).map Value.string) rfl (by simp) newsA oneA (by unfold maxLen; omega) (by omega) (by simp) ?_; intro v5 w5 own5 grow5; have newsB := (show ∀ j u, ((xs.take q).map Value.string)[j]? = some u → w5.cell? ((⟨g, off, none⟩ : Addr).add j) = some u from fun j u hu => by
              rw [List.getElem?_map, List.getElem?_take] at hu
              split at hu
              · obtain ⟨x, hx, rfl⟩ := Option.map_eq_some_iff.1 hu
                rw [addr_add]
                exact grown_cell grow5 (cell_keep (box1 w3.drew (.cells #[] 9)) (show w3.drew.cell? ⟨g, off + j, none⟩ = some (.string x) from hcell _ _ hx)) (fun e => hgne (Option.some.inj e))
              · cases hu))
          | (refine step_own_at rfl _ _ 24 rfl w3.heap.size 9 i0 (.string ⟨#[]⟩) 1 16 Tryz.underlying24 hi hz0 hz1 hz2 rfl (by decide) _ _ _ rfl own5 _ _ _ ((xs.take q).map Value.string) rfl (by simp; omega) newsB oneB (by unfold maxLen; omega) (by omega) (by have := grow5.size; simp at this; omega) ?_; intro v6 w6 own6 grow6)))
        have hz3 := S3.lt
        have S5 := ((S3.below (Below.refl _ _).drew).below (box1 w3.drew (.cells #[] 9))).grownP grow5 (fun k hk => by have e : w3.heap.size = k := Option.some.inj hk; omega)
        have S6 := S5.grownP grow6 (fun k hk => by have := (own5.lt k hk).1; omega)
        have G3 := grown_trans (grown_trans G2.1 g3) (grown_trans (grown_below (Below.refl _ _).drew) (grown_below (box1 w3.drew (.cells #[] 9))))
        have hzw : w.heap.size ≤ w3.heap.size := (grown_trans G2.1 g3).size
        have G6 := grown_own (grown_own G3 grow5 (fun k hk => by have e : w3.heap.size = k := Option.some.inj hk; omega)) grow6 (fun k hk => by have := (own5.lt k hk).1; omega)
        have el : 0 + (xs.length - q) + q = (xs.drop q ++ xs.take q).length := by simp; omega
        rw [el] at own6
        have HO := Lib.hid (show w6.ownsRow w.heap.size 9 1 v6 (xs.drop q ++ xs.take q).length ((xs.drop q ++ xs.take q).map Value.string) from own_base (by simpa using own6) hzw)
        have hlq : (xs.drop q ++ xs.take q).length = xs.length := by simp; omega
        go_wp2
        go_ret
        exact ⟨v6, xs.drop q ++ xs.take q, rfl, by omega, by omega, fun x hx => by
          rcases List.mem_append.1 hx with h | h
          · exact hle.2 x (List.mem_of_mem_drop h)
          · exact hle.2 x (List.mem_of_mem_take h), HO.out, S6, G6⟩
      · have hl0 : xs.length = 0 := by omega
        have hq : ((xs.length : Int) == 0) = true := by rw [hl0]; rfl
        go_wp2
        go_ret
        refine ⟨_, [⟨#[97]⟩], rfl, by simp, by simp, by decide, ?_, S2.below (box1 _ _), grown_trans G2.1 (grown_below (box1 _ _))⟩
        exact own_base (World.ownsRow_lit (base := wr.heap.size) (e := 9) (size := 1) wr #[.string ⟨#[97]⟩] 1 (Nat.le_refl _) (by unfold maxLen; omega) rfl) (by have := G2.2; omega)
end Go.Proofs.YtpnbbhomkneflaaGreatDoor
