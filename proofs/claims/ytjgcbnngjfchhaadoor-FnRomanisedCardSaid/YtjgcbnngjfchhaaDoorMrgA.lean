/- Parts of the proof in one text: Base, Open, Door, Shelf, Words, Dist, SplitLaw, Shelf2, Split, Marks, Join, Ints, Frame, Zone, Mix, Draw, Grown, DrawA, DrawC, SrcP, NumLaw, Shelf3, Num, NumJ, Alpha, Alpha2, SpellA, RulesLaw, Rules, Same. -/
import Derived.Test.YtjgcbnngjfchhaaDoorRows
import Derived.WalkKit
import Derived.ProofKit
import Derived.OpenShut
import Derived.ShutString
import Derived.ChangeOld
import Derived.Below
import Derived.Laws.OwnMore
import Derived.Deep.Draws
import Derived.Laws.MakeOwn
import Derived.Laws.Entries
import Derived.BigQuiet
import Derived.Deep.QuietTactic
import Derived.Deep.Slices
import Derived.Deep.Fields
import Derived.ChangeSame
import Derived.Lib.SmallJoins
import Derived.Test.YtjgcbnngjfchhaaDoorCards
import Derived.Test.YtjgcbnngjfchhaaDoorTie
import Derived.Deep.DeepHandedRow
import Derived.Lib.LaidTab
import Derived.Shelf.Strings.SlTrimAscii
import Derived.Shelf.Strings.Trim
import Derived.Shelf.Small.Utf8
import Derived.Shelf.Small.Strs
import Derived.Shelf.Strings.Search1
import Derived.Shelf.Unicode.Decode
import Derived.Shelf.Strings.Runes
import Derived.Shelf.Strings.AsciiSet
import Derived.Shelf.Unicode.DecodeSlow
import Derived.Shelf.Unicode.DecodeAny
import Derived.Shelf.Unicode.DecodeLast
import Derived.Ground.SlgnProg
import Derived.Shelf.SlicesE.Clone
import Derived.Test.YtjgcbnngjfchhaaDoorProg
import Derived.Lib.Hide
import Derived.WalkLawsBesides
import Derived.WalkSpells
import Derived.StillTailTactics
import Derived.Deep.AppendLies
import Derived.Lib.Split
import Derived.Lib.SplitLaws
import Derived.Lib.Join
import Derived.StillTail
import Derived.IntWalk
import Derived.Deep.Cut
import Derived.Deep.RegionWith
import Derived.Lib.ItoaNum
import Derived.Lib.ParseIntB
import Derived.Lib.AppendIntMem
import Derived.Deep.DeepCutAuto
import Derived.Deep.RegionHeldLaw
namespace Go.Proofs.YtjgcbnngjfchhaaDoor
open Go.RowKit

/-- A slice value that reads as n elements of 'size' cells each, the cells xs. -/
structure Reads (w : World) (size : Nat) (A : Option Addr) (n c : Nat) (xs : List Value) : Prop where
  le : n ≤ c
  cap : c ≤ maxLen
  len : xs.length = n * size
  at_ : 0 < n → ∃ b off, A = some ⟨b, off, none⟩ ∧ b < w.heap.size ∧ ∀ j u, xs[j]? = some u → w.cell? ⟨b, off + j, none⟩ = some u

/-- A skipped operation's slot holds nothing: a guard that asks it says no. -/
theorem yield_undef (f : Bool → Option Bool) (g : Option Value → Option Bool) : Go.yielded.match_1 (fun _ => Option Bool) (some undef) f g = g (some undef) := rfl
attribute [go_sem] yield_undef

theorem cell_keep {w w' : World} {a : Addr} {v : Value} (hb : Below w.heap.size w w') (h : w.cell? a = some v) : w'.cell? a = some v :=
  (hb.cell (World.block_lt_of_cell? w _ h)).trans h

theorem cell_alloc {w : World} {a : Addr} {v : Value} {o : Obj} (h : w.cell? a = some v) : (w.alloc o).cell? a = some v := cell_keep ((Below.refl _ _).alloc (Nat.le_refl _) o) h
theorem next {w w1 w2 : World} (h : Below w.heap.size w w1) (hb : Below w1.heap.size w1 w2) : Below w.heap.size w w2 :=
  h.trans (hb.mono h.size)

/-! ### A region that draws its order, whose operations read and whose callees give a value and leave all that was there as it was: one walk in the order of the text -/
def After (w : World) : Type := { w' : World // Below w.heap.size w w' }
instance (w : World) : Nonempty (After w) := ⟨⟨w, Below.refl _ _⟩⟩
def after {w : World} (x : After w) : World := x.1
theorem after_below {w : World} (x : After w) : Below w.heap.size w (after x) := x.2
theorem after_cell {w : World} (x : After w) (b o : Nat) (sp : Option Nat) (h : b < w.heap.size) : (after x).cell? ⟨b, o, sp⟩ = w.cell? ⟨b, o, sp⟩ :=
  (after_below x).cell (p := ⟨b, o, sp⟩) h
attribute [go_sem] after_cell
theorem later_below {w w' : World} (h : ∃ x : After w, w' = after x) : Below w.heap.size w w' := by
  obtain ⟨x, rfl⟩ := h
  exact after_below x
theorem wp_region_later {P : Program} {id : Nat} {Q : Exit → Act → World → Prop} {a : Act} {w : World} {l : List Oper} (hm : P.follows .mixedOrders = true) (hB : Region.lexB .any l.toArray = true)
    (h : wpQuiet P l.toArray (fun w' => ∃ x : After w, w' = after x) (fun a' => ∀ w', (∃ x : After w, w' = after x) → Q .normal a' w') l a) : (Code.region id l.toArray true).wp P Q a w :=
  wp_region_quiet (C := fun w' => ∃ x : After w, w' = after x) hm hB ⟨⟨w.drew, (Below.refl _ _).drew⟩, rfl⟩ (by simpa using h)
theorem Calls.later {P : Program} {f : FuncId} {args : Array Value} {w : World} {x : After w} {v : Value}
    (h : Calls P f args (after x) fun e w' => e = .returned v ∧ Below (after x).heap.size (after x) w') : Calls P f args (after x) fun e w'' => e = .returned v ∧ ∃ y : After w, w'' = after y :=
  h.mono fun _ w1 ⟨he, hb⟩ => ⟨he, ⟨w1, next (after_below x) hb⟩, rfl⟩

theorem Reads.below {w w' : World} {size : Nat} {A : Option Addr} {n c : Nat} {xs : List Value} (h : Reads w size A n c xs) (hb : Below w.heap.size w w') : Reads w' size A n c xs :=
  ⟨h.le, h.cap, h.len, fun hn => by
    obtain ⟨b, off, e, hlt, hc⟩ := h.at_ hn
    exact ⟨b, off, e, Nat.lt_of_lt_of_le hlt hb.size, fun j u hu => (hb.cell (p := ⟨b, off + j, none⟩) hlt).trans (hc j u hu)⟩⟩

theorem Reads.of_own {w : World} {base : Nat} {e : TypeId} {size n c : Nat} {A : Option Addr} {xs : List Value} (h : w.ownsRow base e size (.slice A n c) n xs) : Reads w size A n c xs := by
  have h1 := h.1
  rcases h.2 with ⟨hv, rfl⟩ | ⟨g, cap, cur, hv, hb, hg, hnc, hcm, hcs, ht⟩
  · injection hv with h2 h3 h4
    subst h4
    exact ⟨Nat.le_refl _, Nat.zero_le _, h1, fun hn => absurd hn (by omega)⟩
  · injection hv with h2 h3 h4
    subst h2; subst h4
    refine ⟨hnc, hcm, h1, fun hn => ⟨g, 0, rfl, (h.lt g rfl).2, fun j u hu => ?_⟩⟩
    have := h.cells (g := g) rfl j u hu
    rw [Nat.zero_add]
    have e : (⟨g, 0, none⟩ : Addr).add j = ⟨g, j, none⟩ := by
      unfold Addr.add
      split
      · rename_i h0; rw [h0]
      · simp
    rw [e] at this
    exact this

/-! ### lists of spans: 2 cells each -/
def spanCells (xs : List (Int × Int)) : List Value := xs.flatMap fun s => [.int .i64 s.1, .int .i64 s.2]
theorem spanCells_len (xs : List (Int × Int)) : (spanCells xs).length = xs.length * 2 := by
  induction xs with
  | nil => rfl
  | cons x r ih => simp [spanCells] at ih ⊢; omega
theorem spanCells_at (xs : List (Int × Int)) (i : Nat) (h : i < xs.length) :
    (spanCells xs)[i * 2]? = some (.int .i64 (xs.getD i (0, 0)).1) ∧ (spanCells xs)[i * 2 + 1]? = some (.int .i64 (xs.getD i (0, 0)).2) := by
  induction xs generalizing i with
  | nil => simp at h
  | cons x r ih =>
    cases i with
    | zero => simp [spanCells]
    | succ i =>
      have := ih i (by simpa using h)
      simp only [spanCells, List.flatMap_cons] at this ⊢
      rw [show (i + 1) * 2 = i * 2 + 2 from by omega, show i * 2 + 2 + 1 = i * 2 + 1 + 2 from by omega]
      simpa [List.getElem?_append] using this

def Spans (w : World) (A : Option Addr) (n c : Nat) (xs : List (Int × Int)) : Prop := n = xs.length ∧ Reads w 2 A n c (spanCells xs)
theorem Spans.below {w w' : World} {A : Option Addr} {n c : Nat} {xs : List (Int × Int)} (h : Spans w A n c xs) (hb : Below w.heap.size w w') : Spans w' A n c xs := ⟨h.1, h.2.below hb⟩
theorem Spans.at_ {w : World} {A : Option Addr} {n c : Nat} {xs : List (Int × Int)} (h : Spans w A n c xs) (k : Nat) (hk : k < n) :
    ∃ b off, A = some ⟨b, off, none⟩ ∧ b < w.heap.size ∧ ∀ i, i < n → w.cell? ⟨b, off + i * 2, none⟩ = some (.int .i64 (xs.getD i (0, 0)).1) ∧ w.cell? ⟨b, off + i * 2 + 1, none⟩ = some (.int .i64 (xs.getD i (0, 0)).2) := by
  obtain ⟨b, off, e, hlt, hc⟩ := h.2.at_ (by omega)
  refine ⟨b, off, e, hlt, fun i hi => ?_⟩
  obtain ⟨h1, h2⟩ := spanCells_at xs i (h.1 ▸ hi)
  exact ⟨hc _ _ h1, by rw [Nat.add_assoc]; exact hc _ _ h2⟩
/-- element i: its two numbers, and where they lie in a later world -/
theorem Spans.el {w wr : World} {b off n c : Nat} {xs : List (Int × Int)} (h : Spans w (some ⟨b, off, none⟩) n c xs) {B : Nat} (hb : Below B w wr) (hbl : b < B) (k : Nat) (hk : k < n) :
    ∃ f t, Hid (xs.getD k (0, 0) = (f, t)) ∧ wr.cell? ⟨b, off + k * 2, none⟩ = some (.int .i64 f) ∧ wr.cell? ⟨b, off + k * 2 + 1, none⟩ = some (.int .i64 t) := by
  obtain ⟨b', off', e, _, hc⟩ := h.at_ k hk
  injection e with e; injection e with e1 e2
  subst e1; subst e2
  obtain ⟨h1, h2⟩ := hc k hk
  exact ⟨_, _, rfl, (hb.cell (p := ⟨b, off + k * 2, none⟩) hbl).trans h1, (hb.cell (p := ⟨b, off + k * 2 + 1, none⟩) hbl).trans h2⟩

theorem own_below {w w' : World} {base : Nat} {e : TypeId} {size : Nat} {v : Value} {n : Nat} {xs : List Value} (h : w.ownsRow base e size v n xs) (hb : Below w.heap.size w w') : w'.ownsRow base e size v n xs :=
  h.kept (row := none) ⟨hb.os, hb.tape, hb.output, hb.size, fun k hk _ => hb.block k hk⟩ (by cases hv : v.ownBlock <;> simp)

theorem take_set2 {α : Type} (ys zs : List α) (j : Nat) (a b : α) (h : ys.take j = zs.take j) (hl : ys.length = zs.length) (ha : zs[j]? = some a) (hb : zs[j + 1]? = some b) : ((ys.set j a).set (j + 1) b).take (j + 2) = zs.take (j + 2) := by
  apply List.ext_getElem?
  intro i
  have hj : j < zs.length := by have := (List.getElem?_eq_some_iff.1 ha).1; omega
  have hj1 : j + 1 < zs.length := by have := (List.getElem?_eq_some_iff.1 hb).1; omega
  by_cases hi : i < j + 2
  · rw [List.getElem?_take_of_lt hi, List.getElem?_take_of_lt hi]
    by_cases e1 : i = j + 1
    · subst e1; rw [List.getElem?_set_self (by simp; omega), hb]
    · rw [List.getElem?_set_ne (by omega)]
      by_cases e2 : i = j
      · subst e2; rw [List.getElem?_set_self (by omega), ha]
      · rw [List.getElem?_set_ne (by omega)]
        have := congrArg (fun l => l[i]?) h
        simp only [List.getElem?_take_of_lt (show i < j by omega)] at this
        exact this
  · rw [List.getElem?_take_eq_none (by omega), List.getElem?_take_eq_none (by omega)]
theorem take_set1 {α : Type} (ys zs : List α) (j : Nat) (a : α) (h : ys.take j = zs.take j) (hl : ys.length = zs.length) (ha : zs[j]? = some a) : (ys.set j a).take (j + 1) = zs.take (j + 1) := by
  apply List.ext_getElem?
  intro i
  have hj : j < zs.length := by have := (List.getElem?_eq_some_iff.1 ha).1; omega
  by_cases hi : i < j + 1
  · rw [List.getElem?_take_of_lt hi, List.getElem?_take_of_lt hi]
    by_cases e2 : i = j
    · subst e2; rw [List.getElem?_set_self (by omega), ha]
    · rw [List.getElem?_set_ne (by omega)]
      have := congrArg (fun l => l[i]?) h
      simp only [List.getElem?_take_of_lt (show i < j by omega)] at this
      exact this
  · rw [List.getElem?_take_eq_none (by omega), List.getElem?_take_eq_none (by omega)]

/-- a contract's Bool, known -/
theorem isb {P : Program} {f : FuncId} {args : Array Value} {w : World} {p q : Bool} (h : Calls P f args w fun e w' => e = .returned (.bool p) ∧ Below w.heap.size w w') (e : p = q) :
    Calls P f args w fun e w' => e = .returned (.bool q) ∧ Below w.heap.size w w' := e ▸ h
theorem two_boxes (w : World) (x y : Obj) : Below w.heap.size w ((w.alloc x).alloc y) := ((Below.refl _ _).alloc (Nat.le_refl _) _).alloc (by simp) _
theorem three_boxes (w : World) (x y z : Obj) : Below w.heap.size w (((w.alloc x).alloc y).alloc z) := (two_boxes _ _ _).alloc (by simp; omega) _
theorem bcell {W w1 : World} (hb : Below W.heap.size W w1) : ∀ b o, b < W.heap.size → w1.cell? ⟨b, o, none⟩ = W.cell? ⟨b, o, none⟩ := fun b o h => hb.cell (p := ⟨b, o, none⟩) h
theorem bfree {W w1 : World} (hb : Below W.heap.size W w1) : ∀ b o, b < W.heap.size → w1.frozen? ⟨b, o, none⟩ = W.frozen? ⟨b, o, none⟩ := fun b o h => hb.frozen (p := ⟨b, o, none⟩) h

theorem run_make_rowN {P : Program} (t e : TypeId) (i : TypeInfo) (z : Value) (ht : P.underlying t = some (.slice e)) (hi : P.info? e = some i) (hz : i.zero = some z)
    (kl kc : IntKind) (n c : Nat) (hnc : n ≤ c) (hbytes : i.bytes * c ≤ 281474976710656) (h63 : c ≤ 9223372036854775807) (w : World) :
    (Instr.makeSlice t (.int kl (n : Int)) (.int kc (c : Int))).run P w = .ok (.slice (some ⟨w.heap.size, 0, none⟩) n c) (w.alloc (.cells (madeCells z.cells (c * i.size)) e)) := by
  have hb : (i.bytes : Int) * (c : Int) ≤ 281474976710656 := by
    have h : ((i.bytes * c : Nat) : Int) ≤ 281474976710656 := by omega
    rwa [Int.natCast_mul] at h
  have hr := run_make (P := P) w t e i z ht hi hz kl kc n c (by omega) (by omega) hb (by omega)
  simp only [Int.toNat_natCast] at hr
  exact hr
end Go.Proofs.YtjgcbnngjfchhaaDoor
namespace Go.Proofs.YtjgcbnngjfchhaaDoor
open Go.ChangeShapes Go.WideShapes Go.ChangeAt Go.RowKit Go.Deep Go.Joins

section
variable {H : Type} {enc : TypeId × Value → H} {P : Program} {w : World} {base : Nat} {spare : Nat → Bool} {held : Bool}

/-- the cells of a row of elements, each of 'size' cells -/
theorem cells_at {a : Addr} {size i : Nat} {cs' : List Value} (h : w.cells? base (a.add (i * size)) size = some cs') : cs'.length = size ∧ ∀ j, j < size → w.cell? (a.add (i * size + j)) = cs'[j]? := by
  obtain ⟨_, hl, hc⟩ := World.cells?_some h
  exact ⟨hl, fun j hj => by rw [← hc j hj, Go.Deep.add_add]⟩

theorem flat_len {n size : Nat} {el : Nat → List Value} (hlen : ∀ i, i < n → (el i).length = size) : ((List.range n).flatMap el).length = n * size := by
  induction n with
  | zero => simp
  | succ n ih =>
    rw [List.range_succ, List.flatMap_append, List.length_append, ih (fun i h => hlen i (by omega)), Nat.add_mul]
    simp [hlen n (by omega)]
theorem flat_at {n size : Nat} {el : Nat → List Value} (hlen : ∀ i, i < n → (el i).length = size) {j : Nat} {u : Value} (hu : ((List.range n).flatMap el)[j]? = some u) :
    ∃ i k, i < n ∧ k < size ∧ j = i * size + k ∧ (el i)[k]? = some u := by
  induction n with
  | zero => simp at hu
  | succ n ih =>
    have hl' : ∀ i, i < n → (el i).length = size := fun i h => hlen i (by omega)
    have hln := flat_len hl'
    rw [List.range_succ, List.flatMap_append, List.getElem?_append] at hu
    split at hu
    · obtain ⟨i, k, h1, h2, h3, h4⟩ := ih hl' hu
      exact ⟨i, k, by omega, h2, h3, h4⟩
    · rename_i hge
      rw [hln] at hge hu
      simp only [List.flatMap_cons, List.flatMap_nil, List.append_nil] at hu
      have hk := (List.getElem?_eq_some_iff.1 hu).1
      rw [hlen n (by omega)] at hk
      exact ⟨n, j - n * size, by omega, hk, by omega, hu⟩
theorem congr_flat {α β : Type} {f g : α → List β} {l : List α} (h : ∀ x, x ∈ l → f x = g x) : l.flatMap f = l.flatMap g := by
  induction l with
  | nil => rfl
  | cons a l ih => rw [List.flatMap_cons, List.flatMap_cons, h a (by simp), ih (fun x hx => h x (by simp [hx]))]

/-- A SLICE, opened at every element: its cells, and each element's own reading. -/
theorem open_row {t e : TypeId} {size : Nat} {v : Value} {r : Reach} {b0 : Nat} {d : DataW H} {p : List MemPlace} (ht : P.underlying t = some (.slice e)) (hC : P.cellsOf e = size) (hs : 0 < size)
    (hv : Value.okWide P w r b0 t v) (h : DataW.Trod enc P w base spare held t v d p) :
    ∃ (A : Option Addr) (n c : Nat) (el : Nat → List Value) (fuel : Nat), v = .slice A n c ∧ Reads w size A n c ((List.range n).flatMap el) ∧ (∀ i, i < n → (el i).length = size) ∧
      ∀ i, i < n → ∃ y, DataW.trod enc P w base spare held fuel e (el i) = some y := by
  obtain ⟨A, n, c, rfl⟩ := okWide_slice ht hv
  obtain ⟨fuel, hf⟩ := h
  rcases open_slice ht hf with ⟨hcs, _⟩ | ⟨a, len, cap, m, k, D, Pl, hcs, hb, hl, hm, hmm, _, hi⟩
  · simp [Value.cells] at hcs
    obtain ⟨rfl, rfl, rfl⟩ := hcs
    exact ⟨none, 0, 0, fun _ => [], 0, rfl, ⟨Nat.le_refl _, Nat.zero_le _, by simp, fun h => absurd h (by omega)⟩, fun i h => absurd h (by omega), fun i h => absurd h (by omega)⟩
  · simp [Value.cells] at hcs
    obtain ⟨rfl, rfl, rfl⟩ := hcs
    have hnm : n ≤ m := by rw [hmm]; split <;> omega
    rw [hC] at hi
    have hex : ∀ i, ∃ cs', i < n → w.cells? base (a.add (i * size)) size = some cs' ∧ DataW.trod enc P w base spare held k e cs' = some (D i, Pl i) := fun i => by
      by_cases h : i < n
      · obtain ⟨cs', h1, h2⟩ := hi i (by omega)
        exact ⟨cs', fun _ => ⟨h1, h2⟩⟩
      · exact ⟨[], fun h' => absurd h' h⟩
    obtain ⟨el, hel⟩ := Classical.axiomOfChoice hex
    have hlen : ∀ i, i < n → (el i).length = size := fun i h => (cells_at (hel i h).1).1
    refine ⟨some a, n, c, el, k, rfl, ⟨hl, hm, ?_, fun hn => ?_⟩, hlen, fun i h => ⟨_, (hel i h).2⟩⟩
    · exact flat_len hlen
    · have h00 := (cells_at (hel 0 hn).1).2 0 hs
      rw [List.getElem?_eq_getElem (by rw [hlen 0 hn]; exact hs)] at h00
      obtain ⟨b, off, sp⟩ := a
      have hsp : sp = none := by
        have := World.cell?_spot h00
        unfold Addr.add at this
        simpa using this
      subst hsp
      have hadd : ∀ j, (⟨b, off, none⟩ : Addr).add j = ⟨b, off + j, none⟩ := fun j => by
        unfold Addr.add
        split
        · rename_i h0; rw [h0]; rfl
        · rfl
      refine ⟨b, off, rfl, ?_, fun j u hu => ?_⟩
      · have := World.block_lt_of_cell? w _ h00
        rw [hadd] at this
        exact this
      · obtain ⟨i, k2, hi1, hk2, hj, hu2⟩ := flat_at hlen hu
        have := (cells_at (hel i hi1).1).2 k2 hk2
        rw [hadd, hu2] at this
        rw [hj]
        exact this

theorem struct2 {e : TypeId} {f0 f1 : Field} {fuel : Nat} {cs : List Value} {y : DataW H × List MemPlace} (he : P.underlying e = some (.struct #[f0, f1])) (hone : oneCellFields P #[f0, f1] = true) (hl : cs.length = 2)
    (h : DataW.trod enc P w base spare held fuel e cs = some y) :
    ∃ (v0 v1 : Value) (n : Nat) (y0 y1 : DataW H × List MemPlace), cs = [v0, v1] ∧ DataW.trod enc P w base spare held n f0.type [v0] = some y0 ∧ DataW.trod enc P w base spare held n f1.type [v1] = some y1 := by
  obtain ⟨xs, n, _, _, _, hlen, hg⟩ := DataW.trod_struct he h
  obtain ⟨o0, k0⟩ := hone_of hone 0 f0 rfl
  obtain ⟨o1, k1⟩ := hone_of hone 1 f1 rfl
  match cs, hl with
  | [c0, c1], _ =>
    match xs, hlen with
    | [y0, y1], _ => exact ⟨c0, c1, n, y0, y1, rfl, by simpa [o0, k0] using hg 0 f0 rfl, by simpa [o1, k1] using hg 1 f1 rfl⟩

theorem open_spans {t e i0 : TypeId} {f0 f1 : Field} {v : Value} {r : Reach} {b0 : Nat} {d : DataW H} {p : List MemPlace} (ht : P.underlying t = some (.slice e)) (he : P.underlying e = some (.struct #[f0, f1]))
    (hone : oneCellFields P #[f0, f1] = true) (hC : P.cellsOf e = 2) (h0 : f0.type = i0) (h1 : f1.type = i0) (hi : P.underlying i0 = some (.int .i64))
    (hv : Value.okWide P w r b0 t v) (h : DataW.Trod enc P w base spare held t v d p) :
    ∃ (A : Option Addr) (n c : Nat) (xs : List (Int × Int)), v = .slice A n c ∧ Spans w A n c xs := by
  obtain ⟨A, n, c, el, fuel, rfl, hr, hl, he2⟩ := open_row ht hC (by omega) hv h
  have hex : ∀ i, ∃ s : Int × Int, i < n → el i = [.int .i64 s.1, .int .i64 s.2] := fun i => by
    by_cases hlt : i < n
    · obtain ⟨y, hy⟩ := he2 i hlt
      obtain ⟨v0, v1, m, y0, y1, hcs, ht0, ht1⟩ := struct2 he hone (hl i hlt) hy
      rw [h0] at ht0; rw [h1] at ht1
      obtain ⟨a, ha, _⟩ := DataW.trod_int hi ht0
      obtain ⟨b, hb, _⟩ := DataW.trod_int hi ht1
      simp only [List.cons.injEq, and_true] at ha hb
      exact ⟨(a, b), fun _ => by rw [hcs, ha, hb]⟩
    · exact ⟨(0, 0), fun h => absurd h hlt⟩
  obtain ⟨X, hX⟩ := Classical.axiomOfChoice hex
  refine ⟨A, n, c, (List.range n).map X, rfl, by simp, ?_⟩
  have : spanCells ((List.range n).map X) = (List.range n).flatMap el := by
    unfold spanCells
    rw [List.flatMap_map]
    apply congr_flat
    intro i hi
    exact (hX i (by simpa using hi)).symm
  rw [this]
  exact hr
end
end Go.Proofs.YtjgcbnngjfchhaaDoor
namespace Go.Proofs.YtjgcbnngjfchhaaDoor
mutual
def flatD : DataW Unit → List Value
  | .lit (.int k n) => [.int k n]
  | .agg parts => flatDs parts
  | _ => []
def flatDs : List (DataW Unit) → List Value
  | [] => []
  | d :: r => flatD d ++ flatDs r
end
def setTab (heap : Array Obj) (g : Nat) (d : DataW Unit) : Array Obj := heap.modify g fun
  | .cells _ t frozen => .cells (flatD d).toArray t frozen
  | o => o
end Go.Proofs.YtjgcbnngjfchhaaDoor
namespace Go.Proofs
open Go.Shelf
def Tryd.lays160_ren : Go.Shelf.Ren := ⟨fun | 160 => 75 | 232 => 77 | 231 => 76 | 227 => 78 | 234 => 80 | 233 => 79 | 236 => 82 | 235 => 81 | 228 => 83 | 271 => 86 | 151 => 85 | 197 => 84 | 120 => 89 | 152 => 88 | 260 => 87 | 137 => 90 | 119 => 91 | 224 => 92 | 225 => 93 | 217 => 94 | 266 => 95 | n => n, fun | 9 => 9 | 4 => 4 | 3 => 3 | 5 => 5 | 117 => 88 | 116 => 87 | 0 => 0 | 124 => 91 | 21 => 21 | 105 => 93 | 46 => 98 | 119 => 97 | 139 => 101 | 138 => 100 | n => n, fun | 3 => 0 | 4 => 1 | n => n⟩
theorem Tryd.lays160 : Go.Proofs.Lays.n160 Tryd.prog Tryd.lays160_ren := {
  mixed := by kernel_rfl
  f119 := Tryd.func91.trans (congrArg some (by kernel_rfl))
  f120 := Tryd.func89.trans (congrArg some (by kernel_rfl))
  f137 := Tryd.func90.trans (congrArg some (by kernel_rfl))
  f151 := Tryd.func85.trans (congrArg some (by kernel_rfl))
  f152 := Tryd.func88.trans (congrArg some (by kernel_rfl))
  f160 := Tryd.func75.trans (congrArg some (by kernel_rfl))
  f197 := Tryd.func84.trans (congrArg some (by kernel_rfl))
  f217 := Tryd.func94.trans (congrArg some (by kernel_rfl))
  f224 := Tryd.func92.trans (congrArg some (by kernel_rfl))
  f225 := Tryd.func93.trans (congrArg some (by kernel_rfl))
  f227 := Tryd.func78.trans (congrArg some (by kernel_rfl))
  f228 := Tryd.func83.trans (congrArg some (by kernel_rfl))
  f231 := Tryd.func76.trans (congrArg some (by kernel_rfl))
  f232 := Tryd.func77.trans (congrArg some (by kernel_rfl))
  f233 := Tryd.func79.trans (congrArg some (by kernel_rfl))
  f234 := Tryd.func80.trans (congrArg some (by kernel_rfl))
  f235 := Tryd.func81.trans (congrArg some (by kernel_rfl))
  f236 := Tryd.func82.trans (congrArg some (by kernel_rfl))
  f260 := Tryd.func87.trans (congrArg some (by kernel_rfl))
  f266 := Tryd.func95.trans (congrArg some (by kernel_rfl))
  f271 := Tryd.func86.trans (congrArg some (by kernel_rfl))
  t0 := Tryd.underlying0
  a0 := Tryd.isAgg0
  z0 := Tryd.sizeOf0
  v0 := Tryd.zeroValue0
  t3 := Tryd.underlying3
  a3 := Tryd.isAgg3
  z3 := Tryd.sizeOf3
  v3 := Tryd.zeroValue3
  t4 := Tryd.underlying4
  a4 := Tryd.isAgg4
  z4 := Tryd.sizeOf4
  v4 := Tryd.zeroValue4
  t5 := Tryd.underlying5
  a5 := Tryd.isAgg5
  z5 := Tryd.sizeOf5
  v5 := Tryd.zeroValue5
  t9 := Tryd.underlying9
  a9 := Tryd.isAgg9
  z9 := Tryd.sizeOf9
  v9 := Tryd.zeroValue9
  t21 := Tryd.underlying21
  a21 := Tryd.isAgg21
  z21 := Tryd.sizeOf21
  v21 := Tryd.zeroValue21
  t46 := Tryd.underlying98
  a46 := Tryd.isAgg98
  z46 := Tryd.sizeOf98
  v46 := Tryd.zeroValue98
  t105 := Tryd.underlying93
  a105 := Tryd.isAgg93
  z105 := Tryd.sizeOf93
  v105 := Tryd.zeroValue93
  t116 := Tryd.underlying87
  a116 := Tryd.isAgg87
  z116 := Tryd.sizeOf87
  t117 := Tryd.underlying88
  a117 := Tryd.isAgg88
  z117 := Tryd.sizeOf88
  v117 := Tryd.zeroValue88
  t119 := Tryd.underlying97
  a119 := Tryd.isAgg97
  z119 := Tryd.sizeOf97
  t124 := Tryd.underlying91
  a124 := Tryd.isAgg91
  z124 := Tryd.sizeOf91
  v124 := Tryd.zeroValue91
  t138 := Tryd.underlying100
  a138 := Tryd.isAgg100
  z138 := Tryd.sizeOf100
  v138 := Tryd.zeroValue100
  t139 := Tryd.underlying101
  a139 := Tryd.isAgg101
  z139 := Tryd.sizeOf101
  v139 := Tryd.zeroValue101
  g3 := by kernel_rfl
  g4 := by kernel_rfl }
open Go.RowKit in
/-- strings.Trim: "Trim returns a slice of the string s with all leading and trailing Unicode code points contained in cutset removed.": AT A cutset OF ONE ASCII BYTE. THE WORLD BEHIND IT: as it was, or (where s is not empty) with ONE DRAW MORE off the tape: the statement 'return trimLeftByte(trimRightByte(s, c), c)' draws its order of evaluation. (LAID: no walk: one application.) -/
theorem Tryd.strings_Trim_one (s : ByteArray) (c : UInt8) (hc : c.toNat < 128) (w : World) (hs : s.size ≤ 9223372036854775807) :
    Calls Tryd.prog 75 #[.string s, .string ⟨#[c]⟩] w fun e w' => e = .returned (.string ⟨(Lib.trimB s.data.toList c).toArray⟩) ∧ (w' = w ∨ w' = w.drew) := Any.strings_Trim_one Tryd.lays160 s c hc w hs
end Go.Proofs
namespace Go.Proofs.YtjgcbnngjfchhaaDoor
open Go.ChangeShapes Go.WideShapes Go.ChangeAt Go.RowKit

theorem ret_bool {p q : Bool} (h : p = q) : Ending.returned (.bool p) = .returned (.bool q) := by rw [h]
/-! ## plain words -/
def lower (c : UInt8) : Bool := decide (97 ≤ c.toNat ∧ c.toNat ≤ 122)
def small (lo hi : Int) (s : ByteArray) : Bool := s.data.toList.all lower && decide (lo ≤ s.size ∧ (s.size : Int) ≤ hi)
def isWord (s : ByteArray) : Bool := small 1 16 s
def letters26 : ByteArray := ⟨#[97, 98, 99, 100, 101, 102, 103, 104, 105, 106, 107, 108, 109, 110, 111, 112, 113, 114, 115, 116, 117, 118, 119, 120, 121, 122]⟩

theorem lower_mem (c : UInt8) : letters26.data.toList.contains c = lower c := by
  have : ∀ n : Fin 256, letters26.data.toList.contains (UInt8.ofNat n.val) = lower (UInt8.ofNat n.val) := by decide +kernel
  have h := this ⟨c.toNat, c.toNat_lt⟩
  simpa using h

theorem drop_all {α : Type} (p : α → Bool) (l : List α) : (l.dropWhile p).isEmpty = l.all p := by
  induction l with
  | nil => rfl
  | cons a l ih =>
    simp only [List.dropWhile_cons, List.all_cons]
    cases p a
    · rfl
    · simpa using ih
theorem drop_all' {α : Type} (p : α → Bool) (l : List α) : (l.dropWhile p).all p = l.all p := by
  induction l with
  | nil => rfl
  | cons a l ih =>
    simp only [List.dropWhile_cons, List.all_cons]
    cases h : p a
    · simp [h]
    · simpa using ih
theorem trim_empty (s : ByteArray) : (Lib.trimS s.data.toList letters26.data.toList).isEmpty = s.data.toList.all lower := by
  have e : (fun c => letters26.data.toList.contains c) = lower := funext lower_mem
  unfold Lib.trimS Lib.trimLeftS Lib.trimRightS
  rw [e, drop_all, List.all_reverse, drop_all', List.all_reverse]

theorem Trim_any (s : ByteArray) (w : World) (hs : s.size ≤ 9223372036854775807) :
    Calls Tryd.prog 75 #[.string s, .string ⟨#[97, 98, 99, 100, 101, 102, 103, 104, 105, 106, 107, 108, 109, 110, 111, 112, 113, 114, 115, 116, 117, 118, 119, 120, 121, 122]⟩] w fun e w' => e = .returned (.string ⟨(Lib.trimS s.data.toList letters26.data.toList).toArray⟩) ∧ Below w.heap.size w w' :=
  Any.strings_Trim_laid Tryd.lays160 (by kernel_rfl) s letters26 w hs (by decide) (ascii_of_all (by decide))

set_option maxHeartbeats 400000 in
theorem within_any (y f t : Int) (w : World) :
    Calls Tryd.prog 72 #[.int .i64 y, .int .i64 f, .int .i64 t] w fun e w' => e = .returned (.bool (decide (f ≤ y ∧ y ≤ t))) ∧ Below w.heap.size w w' := by
  go_enter Tryd.func72, Tryd.ntmps72
  go_wp2
  all_goals
    go_ret
    exact ⟨ret_bool (by rw [Bool.eq_iff_iff]; simp; try omega), Below.refl _ _⟩
set_option maxHeartbeats 400000 in
theorem l01In_any (y f t : Int) (w : World) :
    Calls Tryd.prog 71 #[.int .i64 y, .int .i64 f, .int .i64 t] w fun e w' => e = .returned (.bool (decide (f ≤ y ∧ y ≤ t))) ∧ Below w.heap.size w w' := by
  go_enter Tryd.func71, Tryd.ntmps71
  go_wp2
  all_goals
    go_ret
    exact ⟨ret_bool (by rw [Bool.eq_iff_iff]; simp; try omega), Below.refl _ _⟩

set_option maxHeartbeats 400000 in
theorem isSmall_any (s : ByteArray) (lo hi : Int) (w : World) (hs : s.size ≤ maxLen) :
    Calls Tryd.prog 64 #[.string s, .int .i64 lo, .int .i64 hi] w fun e w' => e = .returned (.bool (small lo hi s)) ∧ Below w.heap.size w w' := by
  unfold maxLen at hs
  cases hw : decide (lo ≤ (s.size : Int) ∧ (s.size : Int) ≤ hi)
  · have H := Lib.hid (show small lo hi s = false by unfold small; rw [hw, Bool.and_false])
    have hc := isb (within_any s.size lo hi w) hw
    have HC := Lib.hid hc
    clear hc hw
    go_enter Tryd.func64, Tryd.ntmps64
    go_wp2_with fail
    refine HC.out.mono ?_
    rintro e_ w1 ⟨rfl, h1⟩
    go_wp2
    go_ret
    exact ⟨by rw [H.out]; rfl, h1⟩
  · have H := Lib.hid (show small lo hi s = s.data.toList.all lower by unfold small; rw [hw, Bool.and_true])
    have hc := isb (within_any s.size lo hi w) hw
    have HC := Lib.hid hc
    clear hc hw
    cases ht : s.data.toList.all lower
    all_goals
      have he := trim_empty s
      rw [ht] at he
      have HT := Lib.hid ht
      clear ht
      go_enter Tryd.func64, Tryd.ntmps64
      go_wp2_with fail
      refine HC.out.mono ?_
      rintro e_ w1 ⟨rfl, h1⟩
      go_wp2_with fail
      refine (Trim_any s _ hs).mono ?_
      rintro e_ w2 ⟨rfl, h2⟩
      go_wp2
      go_ret
      exact ⟨by rw [H.out, HT.out]; rfl, next h1 h2⟩

theorem lower_u8 (c : UInt8) : lower c = decide (¬ ((c.toNat : Int) < 97) ∧ ¬ (122 < (c.toNat : Int))) := by
  unfold lower
  apply decide_eq_decide.2
  omega
theorem all_upto {p : UInt8 → Bool} {s : ByteArray} {k : Nat} (hk : k < s.size) (h : (s.data.toList.take k).all p = true) (hc : p s[k] = true) : (s.data.toList.take (k + 1)).all p = true := by
  rw [List.take_succ_eq_append_getElem (by simpa using hk), List.all_append, h]
  have : p (s.data.toList[k]'(by simpa using hk)) = true := hc
  simp only [List.all_cons, List.all_nil, Bool.and_true, Bool.true_and]
  exact this
theorem all_no {p : UInt8 → Bool} {s : ByteArray} {k : Nat} (hk : k < s.size) (hc : p s[k] = false) : s.data.toList.all p = false := by
  rw [List.all_eq_false]
  refine ⟨s[k], ?_, by simp [hc]⟩
  have : s.data.toList[k]'(by simpa using hk) = s[k] := rfl
  rw [← this]
  exact List.getElem_mem _
theorem all_end {p : UInt8 → Bool} {s : ByteArray} {k : Nat} (hk : s.size ≤ k) (h : (s.data.toList.take k).all p = true) : s.data.toList.all p = true := by
  rw [List.take_of_length_le (by simpa using hk)] at h
  exact h

/-! ## two words -/
def twoCode (a b : ByteArray) : Int := if isWord a = true ∧ isWord b = true then 0 else 1
theorem two_cases (a b : ByteArray) : (Hid (twoCode a b = 0) ∧ isWord a = true ∧ isWord b = true) ∨ (Hid (twoCode a b = 1) ∧ (isWord a = false ∨ (isWord a = true ∧ isWord b = false))) := by
  unfold twoCode Hid
  cases h1 : isWord a <;> cases h2 : isWord b <;> simp

/-- a slice of strings, as the list of them -/
def Strs (w : World) (A : Option Addr) (n c : Nat) (xs : List ByteArray) : Prop := n = xs.length ∧ Reads w 1 A n c (xs.map Value.string) ∧ ∀ x ∈ xs, x.size ≤ maxLen
theorem Strs.below {w w' : World} {A : Option Addr} {n c : Nat} {xs : List ByteArray} (h : Strs w A n c xs) (hb : Below w.heap.size w w') : Strs w' A n c xs := ⟨h.1, h.2.1.below hb, h.2.2⟩
theorem Strs.at_ {w : World} {A : Option Addr} {n c : Nat} {xs : List ByteArray} (h : Strs w A n c xs) (k : Nat) (hk : k < n) : ∃ b off, A = some ⟨b, off, none⟩ ∧ b < w.heap.size := by
  obtain ⟨b, off, e, hlt, _⟩ := h.2.1.at_ (by omega)
  exact ⟨b, off, e, hlt⟩
theorem Strs.el {w wr : World} {b off n c : Nat} {xs : List ByteArray} (h : Strs w (some ⟨b, off, none⟩) n c xs) {B : Nat} (hb : Below B w wr) (hbl : b < B) (k : Nat) (hk : k < n) :
    ∃ s, Hid (xs[k]? = some s) ∧ wr.cell? ⟨b, off + k, none⟩ = some (.string s) ∧ s.size ≤ maxLen := by
  obtain ⟨b', off', e, _, hc⟩ := h.2.1.at_ (by omega)
  injection e with e; injection e with e1 e2
  subst e1; subst e2
  have hl : k < xs.length := by rw [← h.1]; exact hk
  refine ⟨xs[k], List.getElem?_eq_getElem hl, (hb.cell (p := ⟨b, off + k, none⟩) hbl).trans (hc k _ (by simp [hl])), h.2.2 _ (List.getElem_mem hl)⟩
theorem all_at {α : Type} {p : α → Bool} {xs : List α} {k : Nat} {s : α} (h : Hid (xs[k]? = some s)) (hp : (xs.take k).all p = true) (hs : p s = true) : (xs.take (k + 1)).all p = true := by
  obtain ⟨hk, e⟩ := List.getElem?_eq_some_iff.1 h.out
  rw [List.take_succ_eq_append_getElem hk, List.all_append, hp, e]
  simp [hs]
theorem all_not {α : Type} {p : α → Bool} {xs : List α} {k : Nat} {s : α} (h : Hid (xs[k]? = some s)) (hs : p s = false) : xs.all p = false := by
  obtain ⟨hk, e⟩ := List.getElem?_eq_some_iff.1 h.out
  rw [List.all_eq_false]
  exact ⟨s, by rw [← e]; exact List.getElem_mem _, by simp [hs]⟩
theorem all_done {α : Type} {p : α → Bool} {xs : List α} {k n : Nat} (hn : n = xs.length) (hk : n ≤ k) (hp : (xs.take k).all p = true) : xs.all p = true := by
  rw [List.take_of_length_le (by omega)] at hp
  exact hp

theorem strs_two (w : World) (a b : ByteArray) (t : TypeId) (ha : a.size ≤ maxLen) (hb : b.size ≤ maxLen) : Strs (w.alloc (.cells #[.string a, .string b] t)) (some ⟨w.heap.size, 0, none⟩) 2 2 [a, b] :=
  ⟨rfl, ⟨Nat.le_refl _, by unfold maxLen; omega, rfl, fun _ => ⟨w.heap.size, 0, rfl, by simp, fun j u hu => by
    rw [Nat.zero_add]
    match j, hu with
    | 0, hu => simp at hu; subst hu; go_simp
    | 1, hu => simp at hu; subst hu; go_simp
    | j + 2, hu => simp at hu⟩⟩, by simp [ha, hb]⟩

theorem two_all (a b : ByteArray) : [a, b].all isWord = decide (twoCode a b = 0) := by
  unfold twoCode
  cases h1 : isWord a <;> cases h2 : isWord b <;> simp [h1, h2]

theorem get_list (s : ByteArray) {k : Nat} (h : k < s.size) : s.data.toList[k]? = some (s.data[k]'h) := by
  rw [Array.getElem?_toList]
  exact Array.getElem?_eq_getElem h
/-! ### CommonStart -/
def sameUpto (a b : ByteArray) (k : Nat) : Prop := ∀ i, i < k → ∃ c, a.data.toList[i]? = some c ∧ b.data.toList[i]? = some c
/-- how many letters two lists have in common at the start -/
def startLen : List UInt8 → List UInt8 → Nat
  | x :: a, y :: b => if x = y then startLen a b + 1 else 0
  | _, _ => 0
theorem startLen_eq : ∀ (a b : List UInt8) (k : Nat), (∀ i, i < k → ∃ c, a[i]? = some c ∧ b[i]? = some c) → (a[k]? = none ∨ b[k]? = none ∨ a[k]? ≠ b[k]?) → startLen a b = k
  | [], b, k, h, _ => by
    cases k with
    | zero => simp [startLen]
    | succ k => obtain ⟨c, h1, _⟩ := h 0 (by omega); simp at h1
  | x :: a, [], k, h, _ => by
    cases k with
    | zero => simp [startLen]
    | succ k => obtain ⟨c, _, h1⟩ := h 0 (by omega); simp at h1
  | x :: a, y :: b, 0, _, h => by
    simp at h
    simp [startLen, h]
  | x :: a, y :: b, k + 1, h, h' => by
    obtain ⟨c, h1, h2⟩ := h 0 (by omega)
    simp at h1 h2
    have e : x = y := h1.trans h2.symm
    unfold startLen
    rw [if_pos e, startLen_eq a b k (fun i hi => by simpa using h (i + 1) (by omega)) (by simpa using h')]
theorem startLen_le : ∀ (a b : List UInt8), startLen a b ≤ a.length
  | [], _ => by simp [startLen]
  | _ :: _, [] => by simp [startLen]
  | x :: a, y :: b => by
    unfold startLen
    have := startLen_le a b
    split <;> simp <;> omega
def comStart (a b : ByteArray) : Nat := startLen a.data.toList b.data.toList
theorem comStart_le (a b : ByteArray) : comStart a b ≤ a.size := by
  have := startLen_le a.data.toList b.data.toList
  simpa [comStart] using this
theorem com_succ {a b : ByteArray} {k : Nat} (h : sameUpto a b k) (ha : k < a.size) (hb : k < b.size) (e : a[k] = b[k]) : sameUpto a b (k + 1) := fun i hi => by
  by_cases hik : i = k
  · subst hik
    have e' : a.data[i]'ha = b.data[i]'hb := e
    exact ⟨a.data[i]'ha, get_list a ha, by rw [e']; exact get_list b hb⟩
  · exact h i (by omega)
theorem com_end {a b : ByteArray} {k : Nat} (h : sameUpto a b k) (hne : a.size ≤ k ∨ b.size ≤ k ∨ ∃ (ha : k < a.size) (hb : k < b.size), a[k] ≠ b[k]) : comStart a b = k := by
  refine startLen_eq _ _ k h ?_
  rcases hne with h1 | h1 | ⟨ha, hb, hne⟩
  · left; rw [List.getElem?_eq_none]; simpa using h1
  · right; left; rw [List.getElem?_eq_none]; simpa using h1
  · right; right
    intro e
    apply hne
    have e1 : a.data.toList[k]? = some (a.data[k]'ha) := get_list a ha
    have e2 : b.data.toList[k]? = some (b.data[k]'hb) := get_list b hb
    rw [e1, e2] at e
    exact Option.some.inj e

def comText (a b : ByteArray) : ByteArray := if twoCode a b = 0 then a.extract 0 (comStart a b) else ⟨#[]⟩
theorem ret_str {p q : ByteArray} {x y : Value} (h : p = q) (hx : x = .string p) (hy : y = .string q) : x = y := by rw [hx, hy, h]

end Go.Proofs.YtjgcbnngjfchhaaDoor
namespace Go.Proofs.YtjgcbnngjfchhaaDoor
open Go.ChangeShapes Go.WideShapes Go.ChangeAt Go.RowKit

def lcsAt (x : UInt8) (b : List UInt8) (R nx : List Int) (k : Nat) : Int := if x = b.getD k 0 then R.getD k 0 + 1 else max (R.getD (k + 1) 0) (nx.getD k 0)
def lcsPart (x : UInt8) (b : List UInt8) (R : List Int) : Nat → List Int
  | 0 => [0]
  | k + 1 => lcsPart x b R k ++ [lcsAt x b R (lcsPart x b R k) k]
def lcsRow (a b : List UInt8) : Nat → List Int
  | 0 => List.replicate (b.length + 1) 0
  | i + 1 => lcsPart (a.getD i 0) b (lcsRow a b i) b.length
def lcs (a b : List UInt8) : Int := (lcsRow a b a.length).getD b.length 0
theorem lcsPart_len (x : UInt8) (b : List UInt8) (R : List Int) : ∀ k, (lcsPart x b R k).length = k + 1
  | 0 => rfl
  | k + 1 => by simp [lcsPart, lcsPart_len x b R k]
theorem lcsRow_len (a b : List UInt8) : ∀ i, (lcsRow a b i).length = b.length + 1
  | 0 => by simp [lcsRow]
  | i + 1 => by simp [lcsRow, lcsPart_len]
/-- all numbers of a row lie in a range -/
def inR (M : Int) (R : List Int) : Prop := ∀ k, 0 ≤ R.getD k 0 ∧ R.getD k 0 ≤ M
theorem inR_snoc {M : Int} {R : List Int} {x : Int} (h : inR M R) (h0 : 0 ≤ x) (h1 : x ≤ M) : inR M (R ++ [x]) := fun k => by
  rw [List.getD_eq_getElem?_getD, List.getElem?_append]
  split
  · rw [← List.getD_eq_getElem?_getD]; exact h k
  · by_cases e : k - R.length = 0
    · rw [e]; simpa using ⟨h0, h1⟩
    · rw [List.getElem?_eq_none (by simp; omega)]; simp; omega
theorem inR_mono {M N : Int} {R : List Int} (h : inR M R) (hMN : M ≤ N) : inR N R := fun k => ⟨(h k).1, Int.le_trans (h k).2 hMN⟩
theorem lcsAt_in {x : UInt8} {b : List UInt8} {M : Int} {R nx : List Int} (k : Nat) (hR : inR M R) (hn : inR (M + 1) nx) : 0 ≤ lcsAt x b R nx k ∧ lcsAt x b R nx k ≤ M + 1 := by
  have h1 := hR k; have h2 := hR (k + 1); have h3 := hn k
  unfold lcsAt
  split <;> omega
theorem lcsPart_in {x : UInt8} {b : List UInt8} {M : Int} {R : List Int} (hM : 0 ≤ M) (hR : inR M R) : ∀ k, inR (M + 1) (lcsPart x b R k)
  | 0 => fun k => by
    have : (lcsPart x b R 0).getD k 0 = 0 := by cases k <;> simp [lcsPart]
    rw [this]; omega
  | k + 1 => inR_snoc (lcsPart_in hM hR k) (lcsAt_in k hR (lcsPart_in hM hR k)).1 (lcsAt_in k hR (lcsPart_in hM hR k)).2
theorem lcsRow_in (a b : List UInt8) : ∀ i : Nat, inR i (lcsRow a b i)
  | 0 => fun k => by
    have : (lcsRow a b 0).getD k 0 = 0 := by
      unfold lcsRow
      rw [List.getD_eq_getElem?_getD, List.getElem?_replicate]
      split <;> rfl
    rw [this]; simp
  | i + 1 => by
    have := lcsPart_in (x := a.getD i 0) (b := b) (M := i) (by omega) (lcsRow_in a b i) b.length
    intro k
    have h := this k
    unfold lcsRow
    simpa using h

theorem getD_at (b : ByteArray) {j : Nat} (h : j < b.size) : b.data.toList.getD j 0 = b[j] := by
  rw [List.getD_eq_getElem?_getD, get_list b h]; rfl
theorem lcs_eq {L nx : List Int} {x : UInt8} {b : ByteArray} {j : Nat} {x0 m : Int} (h : L = nx ++ [if x = b.data.toList.getD j 0 then x0 else m]) (hj : j < b.size) (e : x = b[j]) : L = nx ++ [x0] := by
  rw [h, getD_at b hj, if_pos e]
theorem lcs_ne {L nx : List Int} {x : UInt8} {b : ByteArray} {j : Nat} {x0 m : Int} (h : L = nx ++ [if x = b.data.toList.getD j 0 then x0 else m]) (hj : j < b.size) (e : ¬ x = b[j]) : L = nx ++ [m] := by
  rw [h, getD_at b hj, if_neg e]
theorem lcs_row {a : ByteArray} (b : ByteArray) {k : Nat} {R : List Int} (hk : k < a.size) (h : lcsRow a.data.toList b.data.toList k = R) : lcsRow a.data.toList b.data.toList (k + 1) = lcsPart a[k] b.data.toList R b.size := by
  unfold lcsRow
  rw [getD_at a hk, h]
  rfl
theorem own_base {w : World} {base base' : Nat} {e : TypeId} {size : Nat} {v : Value} {n : Nat} {xs : List Value} (h : w.ownsRow base e size v n xs) (hb : base' ≤ base) : w.ownsRow base' e size v n xs := by
  refine ⟨h.1, ?_⟩
  rcases h.2 with h2 | ⟨g, cap, cur, h1, h2, h3⟩
  · exact .inl h2
  · exact .inr ⟨g, cap, cur, h1, Nat.le_trans hb h2, h3⟩
theorem own_zero (w : World) (n : Nat) (hn : n ≤ 1000000) : (w.alloc (.cells (madeCells #[Value.int .i64 0] (n + 1)) 2)).ownsRow w.heap.size 2 1 (.slice (some ⟨w.heap.size, 0, none⟩) (n + 1) (n + 1)) (n + 1) ((List.replicate (n + 1) (0 : Int)).map (Value.int .i64)) := by
  have h := World.ownsRow_lit (base := w.heap.size) (e := 2) (size := 1) w (madeCells #[Value.int .i64 0] (n + 1)) (n + 1) (Nat.le_refl _) (by unfold maxLen; omega) (by rw [size_madeCells]; omega)
  rw [toList_madeCells_one] at h
  rw [List.map_replicate]
  exact h
theorem isWord_size {s : ByteArray} (h : isWord s = true) : s.size ≤ 16 := by
  unfold isWord small at h
  simp at h
  omega
def lcsVal (a b : ByteArray) : Int := if twoCode a b = 0 then lcs a.data.toList b.data.toList else 0
theorem infoInt : (Tryd.prog.info? 2).map (fun i => (i.zero, i.size, i.bytes)) = some (some (.int .i64 0), 1, 8) := by kernel_rfl

/-- an owned row of integers, opened at two places -/
theorem own_int {w : World} {base n : Nat} {v : Value} {R : List Int} (h : w.ownsRow base 2 1 v n (R.map (Value.int .i64))) (hn : 0 < n) :
    ∃ g cap, v = .slice (some ⟨g, 0, none⟩) n cap ∧ base ≤ g ∧ g < w.heap.size ∧ n ≤ cap ∧ cap ≤ maxLen ∧ (∀ k, k < n → w.cell? ⟨g, k, none⟩ = some (.int .i64 (R.getD k 0))) ∧ (∀ k, w.frozen? ⟨g, k, none⟩ = false) := by
  obtain ⟨g, cap, rfl, hb, hlt⟩ := h.form hn
  refine ⟨g, cap, rfl, hb, hlt, ?_, ?_, fun k hk => ?_, fun k => h.frozenAt k⟩
  · rcases h.2 with ⟨h', _⟩ | ⟨_, _, _, h', _, _, h2, _⟩
    · cases h'
    · injection h' with _ _ h3; rw [h3]; exact h2
  · rcases h.2 with ⟨h', _⟩ | ⟨_, _, _, h', _, _, _, h2, _⟩
    · cases h'
    · injection h' with _ _ h3; rw [h3]; exact h2
  · have hl : R.length = n := by have := h.1; simpa using this
    rw [h.cellAt k (by omega), List.getElem?_map, List.getD_eq_getElem?_getD, List.getElem?_eq_getElem (by omega)]
    rfl

end Go.Proofs.YtjgcbnngjfchhaaDoor
namespace Go.Proofs.YtjgcbnngjfchhaaDoor

/-- a text cut at every occurrence of a byte -/
def cutAt (c : UInt8) : List UInt8 → List (List UInt8)
  | [] => [[]]
  | x :: l => if x = c then [] :: cutAt c l else match cutAt c l with
    | [] => [[x]]
    | p :: r => (x :: p) :: r

theorem cutAt_ne (c : UInt8) (l : List UInt8) : cutAt c l ≠ [] := by
  cases l with
  | nil => simp [cutAt]
  | cons x l => unfold cutAt; split; · simp
                · split <;> simp
theorem cutAt_none {c : UInt8} : ∀ {l : List UInt8}, (∀ x ∈ l, x ≠ c) → cutAt c l = [l]
  | [], _ => rfl
  | x :: l, h => by
    unfold cutAt
    rw [if_neg (h x (by simp)), cutAt_none (fun y hy => h y (by simp [hy]))]
theorem cutAt_app {c : UInt8} : ∀ {p : List UInt8} (r : List UInt8), (∀ x ∈ p, x ≠ c) → cutAt c (p ++ c :: r) = p :: cutAt c r
  | [], r, _ => by simp [cutAt]
  | x :: p, r, h => by
    rw [List.cons_append, cutAt, if_neg (h x (by simp)), cutAt_app r (fun y hy => h y (by simp [hy]))]

theorem index_one_cons (x c : UInt8) (l : List UInt8) : Lib.index (x :: l) [c] = if c = x then 0 else if Lib.index l [c] = -1 then -1 else Lib.index l [c] + 1 := by
  conv => lhs; unfold Lib.index
  by_cases h : c = x
  · subst h; simp [List.isPrefixOf]
  · have : [c].isPrefixOf (x :: l) = false := by simp [List.isPrefixOf, h]
    rw [this]
    simp [h]
theorem index_one_none (c : UInt8) : ∀ {l : List UInt8}, Lib.index l [c] = -1 → ∀ x ∈ l, x ≠ c
  | [], _, x, hx => by simp at hx
  | y :: l, h, x, hx => by
    rw [index_one_cons] at h
    have hge := Lib.index_ge l [c]
    split at h
    · omega
    · rename_i hy
      split at h
      · rename_i hl
        rcases List.mem_cons.1 hx with rfl | hx
        · exact fun e => hy e.symm
        · exact index_one_none c hl x hx
      · omega
theorem index_one_some (c : UInt8) : ∀ {l : List UInt8} {i : Nat}, Lib.index l [c] = i → ∃ p r, l = p ++ c :: r ∧ p.length = i ∧ ∀ x ∈ p, x ≠ c
  | [], i, h => by
    simp [Lib.index] at h
  | y :: l, i, h => by
    rw [index_one_cons] at h
    split at h
    · rename_i hy
      refine ⟨[], l, by rw [hy]; rfl, ?_, fun x hx => by simp at hx⟩
      simp; omega
    · rename_i hy
      split at h
      · omega
      · have hge := Lib.index_ge l [c]
        obtain ⟨j, hj⟩ : ∃ j : Nat, Lib.index l [c] = j := ⟨(Lib.index l [c]).toNat, by omega⟩
        obtain ⟨p, r, hl, hp, hx⟩ := index_one_some c hj
        refine ⟨y :: p, r, by rw [hl]; rfl, by simp; omega, fun x h' => ?_⟩
        rcases List.mem_cons.1 h' with rfl | h'
        · exact fun e => hy e.symm
        · exact hx x h'

theorem split_one (c : UInt8) : ∀ (n : Nat) (l : List UInt8), l.length ≤ n → Lib.splitK [c] 0 (Lib.count l [c]) l = cutAt c l
  | n, l, hn => by
    by_cases h : Lib.index l [c] = -1
    · rw [Lib.count_miss h, cutAt_none (index_one_none c h)]
      rfl
    · have hge := Lib.index_ge l [c]
      obtain ⟨i, hi⟩ : ∃ i : Nat, Lib.index l [c] = i := ⟨(Lib.index l [c]).toNat, by omega⟩
      obtain ⟨p, r, hl, hp, hx⟩ := index_one_some c hi
      rw [Lib.count_hit (by simp) hi, Nat.add_comm 1]
      unfold Lib.splitK
      have hd : l.drop (i + 1) = r := by rw [hl, ← hp]; simp
      have ht : l.take i = p := by rw [hl, ← hp]; simp
      rw [if_neg (by simp [hi]), hi, Int.toNat_natCast, Nat.add_zero]
      simp only [List.length_cons, List.length_nil, Nat.zero_add]
      rw [hd, ht]
      match n, hn with
      | 0, hn => rw [hl] at hn; simp at hn
      | n + 1, hn =>
        rw [split_one c n r (by rw [hl] at hn; simp at hn; omega), hl, cutAt_app r hx]

/-- the same over texts -/
def cutS (c : UInt8) (s : ByteArray) : List ByteArray := (cutAt c s.data.toList).map fun l => ⟨l.toArray⟩
theorem splitB_one (c : UInt8) (s : ByteArray) : Lib.splitB ⟨#[c]⟩ 0 (Lib.countB s ⟨#[c]⟩) s = cutS c s := by
  have h := Lib.splitB_data ⟨#[c]⟩ 0 (Lib.countB s ⟨#[c]⟩) s
  have e : (⟨#[c]⟩ : ByteArray).data.toList = [c] := rfl
  rw [e] at h
  unfold Lib.countB at h ⊢
  rw [e] at h ⊢
  rw [split_one c _ _ (Nat.le_refl _)] at h
  unfold cutS
  rw [← h, List.map_map]
  conv => lhs; rw [← List.map_id (Lib.splitB _ _ _ _)]
  rfl
theorem cutS_len (c : UInt8) (s : ByteArray) : Lib.countB s ⟨#[c]⟩ + 1 = (cutS c s).length := by
  rw [← splitB_one]
  exact (Lib.splitB_all ⟨#[c]⟩ (Nat.le_refl 1) 0 _ s rfl).symm
theorem cutAt_len (c : UInt8) : ∀ (l : List UInt8), (cutAt c l).length ≤ l.length + 1
  | [] => by simp [cutAt]
  | x :: l => by
    have := cutAt_len c l
    unfold cutAt
    split
    · simp; omega
    · split
      · simp
      · rename_i h; rw [h] at this; simp at this ⊢; omega
theorem cutAt_each (c : UInt8) : ∀ (l p : List UInt8), p ∈ cutAt c l → p.length ≤ l.length
  | [], p, h => by simp [cutAt] at h; simp [h]
  | x :: l, p, h => by
    unfold cutAt at h
    split at h
    · rcases List.mem_cons.1 h with rfl | h
      · simp
      · have := cutAt_each c l p h; simp; omega
    · split at h
      · simp at h; simp [h]
      · rename_i q r hq
        rcases List.mem_cons.1 h with rfl | h
        · have := cutAt_each c l q (by rw [hq]; simp); simp; omega
        · have := cutAt_each c l p (by rw [hq]; simp [h]); simp; omega
theorem cutS_each {c : UInt8} {s p : ByteArray} (h : p ∈ cutS c s) : p.size ≤ s.size := by
  unfold cutS at h
  obtain ⟨l, hl, rfl⟩ := List.mem_map.1 h
  have := cutAt_each c _ _ hl
  unfold ByteArray.size
  simpa using this
theorem cutS_size (c : UInt8) (s : ByteArray) : (cutS c s).length ≤ s.size + 1 := by
  have := cutAt_len c s.data.toList
  simpa [cutS] using this
end Go.Proofs.YtjgcbnngjfchhaaDoor
namespace Go.Proofs.YtjgcbnngjfchhaaDoor
end Go.Proofs.YtjgcbnngjfchhaaDoor
namespace Go.Proofs.YtjgcbnngjfchhaaDoor
open Go.ChangeShapes Go.WideShapes Go.ChangeAt Go.RowKit

/-- the cell that the shelf's search for a byte reads -/
def MaxCell (w : World) : Prop := ∃ m, w.cell? ⟨2, 0, none⟩ = some (.int .i64 m)
theorem MaxCell.below {w w' : World} (h : MaxCell w) (hb : Below w.heap.size w w') : MaxCell w' := by
  obtain ⟨m, hm⟩ := h
  exact ⟨m, cell_keep hb hm⟩

theorem strs_alloc (w : World) (L : List ByteArray) (t : TypeId) (hl : L.length ≤ maxLen) (hs : ∀ x ∈ L, x.size ≤ maxLen) :
    Strs (w.alloc (.cells (L.map Value.string).toArray t)) (some ⟨w.heap.size, 0, none⟩) L.length L.length L :=
  ⟨rfl, ⟨Nat.le_refl _, hl, by simp, fun _ => ⟨w.heap.size, 0, rfl, by simp, fun j u hu => by
    rw [Nat.zero_add]
    go_simp⟩⟩, hs⟩

/-- the pieces up to a place, and where the open one began -/
def Cut (c : UInt8) (s : ByteArray) (P : List ByteArray) (fr i : Nat) : Prop :=
  (i = s.size + 1 ∧ P = cutS c s) ∨
  (fr ≤ i ∧ i ≤ s.size ∧ P.length ≤ i ∧ cutS c s = P ++ (cutAt c (s.data.toList.drop fr)).map (fun l => ⟨l.toArray⟩) ∧ ∀ x ∈ (s.data.toList.take i).drop fr, x ≠ c)
theorem cut_start (c : UInt8) (s : ByteArray) : Cut c s [] 0 0 := .inr ⟨Nat.le_refl _, Nat.zero_le _, Nat.le_refl _, rfl, by simp⟩
theorem ext_list (s : ByteArray) (fr i : Nat) : (⟨((s.data.toList.take i).drop fr).toArray⟩ : ByteArray) = s.extract fr i := by
  apply ByteArray.ext
  rw [ByteArray.data_extract]
  apply Array.ext'
  simp [List.drop_take]
theorem cut_skip {c : UInt8} {s : ByteArray} {P : List ByteArray} {fr i : Nat} (h : Cut c s P fr i) (hi : i < s.size) (hc : s[i] ≠ c) : Cut c s P fr (i + 1) := by
  rcases h with ⟨h, _⟩ | ⟨h1, h2, h3, h4, h5⟩
  · omega
  · refine .inr ⟨by omega, by omega, by omega, h4, fun x hx => ?_⟩
    rw [List.take_add_one, List.drop_append_of_le_length (by simp; omega), get_list s hi] at hx
    rcases List.mem_append.1 hx with hx | hx
    · exact h5 x hx
    · simp at hx; subst hx; exact hc
theorem cut_at {c : UInt8} {s : ByteArray} {P : List ByteArray} {fr i : Nat} (h : Cut c s P fr i) (hi : i < s.size) (hc : s[i] = c) : Cut c s (P ++ [s.extract fr i]) (i + 1) (i + 1) := by
  rcases h with ⟨h, _⟩ | ⟨h1, h2, h3, h4, h5⟩
  · omega
  · have e : s.data.toList.drop fr = (s.data.toList.take i).drop fr ++ c :: s.data.toList.drop (i + 1) := by
      have hl : i < s.data.toList.length := by simpa using hi
      have hg : s.data.toList[i] = c := hc
      rw [← hg, ← List.drop_eq_getElem_cons hl, ← List.drop_append_of_le_length (by simp; omega), List.take_append_drop]
    refine .inr ⟨Nat.le_refl _, by omega, by simp; omega, ?_, fun x hx => ?_⟩
    · rw [h4, e, cutAt_app _ h5, List.map_cons, ext_list]; simp
    · rw [List.drop_eq_nil_of_le (by simp; omega)] at hx; simp at hx
theorem cut_last {c : UInt8} {s : ByteArray} {P : List ByteArray} {fr : Nat} (h : Cut c s P fr s.size) (k : Nat) : Cut c s (P ++ [s.extract fr s.size]) k (s.size + 1) := by
  rcases h with ⟨h, _⟩ | ⟨h1, h2, h3, h4, h5⟩
  · omega
  · refine .inl ⟨rfl, ?_⟩
    have e : (s.data.toList.take s.size) = s.data.toList := List.take_of_length_le (by simp)
    have hx := ext_list s fr s.size
    rw [e] at h5 hx
    rw [h4, cutAt_none h5, List.map_cons, hx]
    rfl
theorem cut_done {c : UInt8} {s : ByteArray} {P : List ByteArray} {fr i : Nat} (h : Cut c s P fr i) (hi : s.size < i) : i = s.size + 1 ∧ P = cutS c s := by
  rcases h with h | ⟨h1, h2, h3, h4, h5⟩
  · exact h
  · omega
theorem cut_le {c : UInt8} {s : ByteArray} {P : List ByteArray} {fr i : Nat} (h : Cut c s P fr i) (hi : i ≤ s.size) : fr ≤ i ∧ P.length ≤ i := by
  rcases h with h | ⟨h1, h2, h3, h4, h5⟩
  · omega
  · exact ⟨h1, h3⟩

theorem infoStr : (Tryd.prog.info? 9).map (fun i => (i.zero, i.size, i.bytes)) = some (some (.string ⟨#[]⟩), 1, 16) := by kernel_rfl

theorem own_strs {w : World} {base : Nat} {e : TypeId} {v : Value} {xs : List ByteArray} (h : w.ownsRow base e 1 v xs.length (xs.map Value.string)) (hs : ∀ x ∈ xs, x.size ≤ maxLen) :
    ∃ A c, v = .slice A xs.length c ∧ Strs w A xs.length c xs := by
  rcases h.2 with ⟨hv, hn⟩ | ⟨g, cap, cur, hv, _⟩
  · subst hv
    rw [← hn] at h ⊢
    exact ⟨none, _, rfl, rfl, Reads.of_own h, hs⟩
  · subst hv
    exact ⟨_, _, rfl, rfl, Reads.of_own h, hs⟩
def isPhrase (s : ByteArray) : Bool := (cutS 32 s).all isWord && decide ((cutS 32 s).length ≤ 8)
theorem cut_max {s : ByteArray} (hs : s.size ≤ 1048576) : (cutS 32 s).length ≤ maxLen ∧ ∀ x ∈ cutS 32 s, x.size ≤ maxLen := by
  unfold maxLen
  refine ⟨?_, fun x hx => ?_⟩
  · have := cutS_size 32 s; omega
  · have := cutS_each hx; omega

/-- WordsOf's code, and its words -/
def phCode (s : ByteArray) : Int := if isPhrase s = true then 0 else 1
def phWords (s : ByteArray) : List ByteArray := if isPhrase s = true then cutS 32 s else []
theorem ph_cases (s : ByteArray) : (isPhrase s = true ∧ Hid (phCode s = 0 ∧ phWords s = cutS 32 s)) ∨ (isPhrase s = false ∧ Hid (phCode s = 1 ∧ phWords s = [])) := by
  unfold phCode phWords Hid
  cases isPhrase s <;> simp

end Go.Proofs.YtjgcbnngjfchhaaDoor
namespace Go.Proofs.YtjgcbnngjfchhaaDoor
open Go.ChangeShapes Go.WideShapes Go.ChangeAt Go.RowKit

theorem text_ne {s t : ByteArray} (h : ¬ s = t) : (s.toList == t.toList) = false := by
  rw [beq_eq_false_iff_ne, ByteArray.toList_eq, ByteArray.toList_eq]
  intro e
  exact h (ByteArray.ext (Array.toList_inj.1 e))
def digs : Nat → Nat → List UInt8 → List UInt8
  | 0, _, acc => acc
  | f + 1, n, acc => if n = 0 then acc else digs f (n / 10) (UInt8.ofNat (48 + n % 10) :: acc)
theorem digs_more : ∀ (f g n : Nat) (acc : List UInt8), n ≤ f → n ≤ g → digs f n acc = digs g n acc
  | 0, g, n, acc, hf, _ => by
    obtain rfl : n = 0 := by omega
    cases g <;> simp [digs]
  | f + 1, 0, n, acc, _, hg => by
    obtain rfl : n = 0 := by omega
    simp [digs]
  | f + 1, g + 1, n, acc, hf, hg => by
    unfold digs
    split
    · rfl
    · exact digs_more f g _ _ (by omega) (by omega)
def digits (n : Nat) (acc : List UInt8) : List UInt8 := digs n n acc
theorem digits_zero (acc : List UInt8) : digits 0 acc = acc := rfl
theorem digits_step {n : Nat} (acc : List UInt8) (h : 0 < n) : digits n acc = digits (n / 10) (UInt8.ofNat (48 + n % 10) :: acc) := by
  unfold digits
  cases n with
  | zero => omega
  | succ n =>
    conv => lhs; unfold digs
    rw [if_neg (by omega), digs_more n ((n + 1) / 10) _ _ (by omega) (Nat.le_refl _)]
/-- the mark of a number that is greater than 0 -/
def markT (k : Nat) : ByteArray := ⟨#[109]⟩ ++ ⟨(digits k []).toArray⟩

theorem digs_len : ∀ (f n : Nat) (acc : List UInt8), n ≤ f → (digs f n acc).length ≤ acc.length + n
  | 0, n, acc, h => by simp [digs]
  | f + 1, n, acc, h => by
    unfold digs
    split
    · omega
    · have := digs_len f (n / 10) (UInt8.ofNat (48 + n % 10) :: acc) (by omega)
      rw [List.length_cons] at this
      omega
theorem markT_size (k : Nat) : (markT k).size ≤ k + 1 := by
  have := digs_len k k [] (Nat.le_refl _)
  unfold markT digits
  have h1 : (ByteArray.mk (digs k k []).toArray).size = (digs k k []).length := by simp [ByteArray.size]
  have h2 : (ByteArray.mk #[109]).size = 1 := rfl
  rw [ByteArray.size_append, h1, h2]
  simp at this
  omega
theorem conv_one (W : World) (d : Int) (h0 : 0 ≤ d) (hd : d < 10) :
    (convert 44 9 (.slice (some ⟨W.heap.size, 0, none⟩) 1 1)).run Tryd.prog (W.alloc (.cells #[.int .u8 (48 + d)] 5)) = .ok (.string ⟨#[UInt8.ofNat (48 + d.toNat)]⟩) (W.alloc (.cells #[.int .u8 (48 + d)] 5)) := by
  have h := run_convert_bytes_back (P := Tryd.prog) (W.alloc (.cells #[.int .u8 (48 + d)] 5)) 44 9 5 ⟨W.heap.size, 0, none⟩ 1 [UInt8.ofNat (48 + d.toNat)] Tryd.underlying44 Tryd.underlying5 Tryd.underlying9 ?_
  · simpa using h
  · intro j hj
    have : j = 0 := by simpa using hj
    subst this
    have e : ((UInt8.ofNat (48 + d.toNat)).toNat : Int) = 48 + d := by
      rw [UInt8.toNat_ofNat']; omega
    simp only [List.getElem_cons_zero, e]
    go_simp
theorem cat_one (n : Nat) (acc : List UInt8) : ByteArray.mk #[48 + UInt8.ofNat n] ++ ByteArray.mk acc.toArray = ByteArray.mk (UInt8.ofNat (48 + n) :: acc).toArray := by
  apply ByteArray.ext
  simp [ByteArray.data_append, UInt8.ofNat_add]
set_option maxRecDepth 100000 in
set_option maxHeartbeats 1000000 in
theorem markText_any (k : Nat) (w : World) (hk : 0 < k) (hm : k ≤ 1000000000000) :
    Calls Tryd.prog 38 #[.int .i64 k] w fun e w' => e = .returned (.string (markT k)) ∧ Below w.heap.size w w' := by
  go_enter Tryd.func38, Tryd.ntmps38
  go_wp2
  go_loopw [0, 3] (fun n o wr => ∃ (j : Nat) (acc : List UInt8), n = .int .i64 j ∧ o = .string ⟨acc.toArray⟩ ∧ Hid (digits k [] = digits j acc) ∧ j + acc.length ≤ k ∧ Below w.heap.size w wr) (fun n _ _ => (intOf n).toNat)
  case atStart => exact ⟨k, [], rfl, rfl, rfl, by simp, Below.refl _ _⟩
  case round =>
    obtain ⟨j, acc, rfl, rfl, hd, hl, hb⟩ := hrel
    by_cases hj : 0 < j
    · have hc := conv_one wr ((j : Int) % 10) (by omega) (by omega)
      have HD := Lib.hid (hd.out.trans (digits_step acc hj))
      clear hd
      go_wp2
      go_roundw
      case rel => exact ⟨j / 10, UInt8.ofNat (48 + j % 10) :: acc, by go_num, by rw [cat_one], HD, by simp; omega, hb.alloc hb.size _⟩
      case measure => simp [intOf]; omega
    · obtain rfl : j = 0 := by omega
      go_wp2
      go_ret
      exact ⟨by unfold markT; rw [hd.out, digits_zero]; rfl, hb⟩


def marks (k n : Nat) : List ByteArray := (List.range n).map fun i => markT (k + i)
theorem marks_len (k n : Nat) : (marks k n).length = n := by simp [marks]
theorem marks_at (k n i : Nat) (h : i < n) : (marks k n)[i]? = some (markT (k + i)) := by
  unfold marks
  rw [List.getElem?_map, List.getElem?_range h]; rfl

theorem marks_max {k n : Nat} (h : k + n ≤ 1000000000000) : ∀ x ∈ marks k n, x.size ≤ maxLen := by
  intro x hx
  unfold marks at hx
  obtain ⟨i, hi, rfl⟩ := List.mem_map.1 hx
  have := markT_size (k + i)
  have := List.mem_range.1 hi
  unfold maxLen
  omega
theorem own_reads {w : World} {base : Nat} {e : TypeId} {A : Option Addr} {n c : Nat} {xs : List ByteArray} (h : w.ownsRow base e 1 (.slice A n c) n (xs.map Value.string)) (hs : ∀ x ∈ xs, x.size ≤ maxLen) : Strs w A n c xs :=
  ⟨by have := h.1; simpa using this.symm, Reads.of_own h, hs⟩
end Go.Proofs.YtjgcbnngjfchhaaDoor
namespace Go.Proofs.YtjgcbnngjfchhaaDoor
open Go.ChangeShapes Go.WideShapes Go.ChangeAt Go.RowKit

def bytesOf (xs : List ByteArray) : List (List UInt8) := xs.map (·.data.toList)
def joined (xs : List ByteArray) : ByteArray := ⟨(Lib.join (bytesOf xs) [32]).toArray⟩
def total (xs : List ByteArray) : Nat := (xs.map ByteArray.size).sum
theorem joined_nil : joined [] = ⟨#[]⟩ := rfl
theorem joined_one (x : ByteArray) : joined [x] = x := by
  unfold joined bytesOf
  rw [List.map_cons, List.map_nil, Lib.join_one]
theorem join_snoc (xs : List (List UInt8)) (x : List UInt8) (h : xs ≠ []) : Lib.join (xs ++ [x]) [32] = Lib.join xs [32] ++ ([32] ++ x) := by
  cases xs with
  | nil => exact absurd rfl h
  | cons y r =>
    rw [List.cons_append, Lib.join_cons, Lib.join_cons]
    unfold Lib.joinTail
    simp
theorem joined_snoc (xs : List ByteArray) (x : ByteArray) (h : xs ≠ []) : joined (xs ++ [x]) = joined xs ++ ⟨#[32]⟩ ++ x := by
  unfold joined bytesOf
  rw [List.map_append, List.map_cons, List.map_nil, join_snoc _ _ (by simpa using h)]
  apply ByteArray.ext
  simp [ByteArray.data_append]
theorem joined_size (xs : List ByteArray) : (joined xs).size ≤ total xs + xs.length := by
  cases xs with
  | nil => simp [joined_nil, ByteArray.size]
  | cons x r =>
    have h := Lib.join_length x.data.toList (bytesOf r) [32]
    have e : (joined (x :: r)).size = (Lib.join (x.data.toList :: bytesOf r) [32]).length := by
      unfold joined bytesOf
      simp [ByteArray.size]
    have e2 : Lib.lens (bytesOf (x :: r)) = total (x :: r) := by
      unfold Lib.lens total bytesOf
      rw [List.map_map, show (List.length ∘ fun s : ByteArray => s.data.toList) = ByteArray.size from funext fun s => Array.length_toList]
    have e3 : (bytesOf r).length = r.length := by unfold bytesOf; rw [List.length_map]
    have e4 : x.data.toList :: bytesOf r = bytesOf (x :: r) := rfl
    rw [e, h, e3, e4, e2, List.length_cons, List.length_cons, List.length_nil]
    omega
theorem total_take (xs : List ByteArray) (k : Nat) : total (xs.take k) ≤ total xs := by
  unfold total
  conv => rhs; rw [← List.take_append_drop k xs]
  rw [List.map_append, List.sum_append]
  omega
theorem joined_step {xs : List ByteArray} {k : Nat} {x : ByteArray} (h : xs[k]? = some x) (hk : 0 < k) : joined (xs.take (k + 1)) = joined (xs.take k) ++ ⟨#[32]⟩ ++ x := by
  rw [List.take_add_one, h]
  refine joined_snoc _ _ ?_
  intro e
  have h1 := congrArg List.length e
  have h2 := (List.getElem?_eq_some_iff.1 h).1
  rw [List.length_take, List.length_nil] at h1
  omega
theorem joined_first {xs : List ByteArray} {x : ByteArray} (h : xs[0]? = some x) : joined (xs.take 1) = x := by
  rw [List.take_add_one, h]
  exact joined_one x

theorem cut_join (c : UInt8) : ∀ (r : List (List UInt8)) (x : List UInt8), (∀ y ∈ x :: r, ∀ b ∈ y, b ≠ c) → cutAt c (Lib.join (x :: r) [c]) = x :: r
  | [], x, h => by
    rw [Lib.join_one]
    exact cutAt_none (h x (by simp))
  | y :: r, x, h => by
    have e : Lib.join (x :: y :: r) [c] = x ++ c :: Lib.join (y :: r) [c] := by
      rw [Lib.join_cons, Lib.join_cons]
      simp [Lib.joinTail]
    rw [e, cutAt_app _ (h x (by simp)), cut_join c r y (fun z hz => h z (by simp [hz]))]
theorem word_bytes {x : ByteArray} (h : isWord x = true) : ∀ b ∈ x.data.toList, b ≠ 32 := by
  intro b hb e
  unfold isWord small at h
  rw [Bool.and_eq_true, List.all_eq_true] at h
  have := h.1 b hb
  subst e
  exact absurd this (by decide)
theorem cutS_joined {xs : List ByteArray} (h : xs.all isWord = true) (hn : xs ≠ []) : cutS 32 (joined xs) = xs := by
  cases xs with
  | nil => exact absurd rfl hn
  | cons x r =>
    rw [List.all_eq_true] at h
    have e : (joined (x :: r)).data.toList = Lib.join (x.data.toList :: bytesOf r) [32] := by
      unfold joined bytesOf; simp
    unfold cutS
    rw [e, cut_join 32 (bytesOf r) x.data.toList]
    · unfold bytesOf
      simp [Function.comp_def]
    · intro y hy
      rcases List.mem_cons.1 hy with rfl | hy
      · exact word_bytes (h x (by simp))
      · unfold bytesOf at hy
        obtain ⟨z, hz, rfl⟩ := List.mem_map.1 hy
        exact word_bytes (h z (by simp [hz]))
/-- JoinPhrase's answer -/
def jpOk (xs : List ByteArray) : Bool := xs.all isWord && decide (1 ≤ xs.length ∧ xs.length ≤ 8)
def jpText (xs : List ByteArray) : ByteArray := if jpOk xs = true then joined xs else ⟨#[]⟩
def jpCode (xs : List ByteArray) : Int := if jpOk xs = true then 0 else 1
theorem jp_phrase {xs : List ByteArray} (h : xs.all isWord = true) : isPhrase (joined xs) = decide (1 ≤ xs.length ∧ xs.length ≤ 8) := by
  cases xs with
  | nil => rfl
  | cons x r =>
    unfold isPhrase
    rw [cutS_joined h (by simp), h]
    simp

/-! ## walks -/
theorem jp_no {xs : List ByteArray} (h : jpOk xs = false) : Hid (jpText xs = ⟨#[]⟩ ∧ jpCode xs = 1) := by
  unfold Hid jpText jpCode
  rw [h]
  exact ⟨rfl, rfl⟩
theorem jp_yes {xs : List ByteArray} (h : jpOk xs = true) : Hid (jpText xs = joined xs ∧ jpCode xs = 0) := by
  unfold Hid jpText jpCode
  rw [h]
  exact ⟨rfl, rfl⟩
/-! ## the harness's copies and sizes -/
def szOf (left : Int) (n : Nat) (xs : List ByteArray) : Int := if left - n - total xs < 0 then -1 else left - n - total xs
theorem total_succ {xs : List ByteArray} {k : Nat} {x : ByteArray} (h : xs[k]? = some x) : total (xs.take (k + 1)) = total (xs.take k) + x.size := by
  unfold total
  rw [List.take_add_one, h]
  simp
end Go.Proofs.YtjgcbnngjfchhaaDoor
namespace Go.Proofs.YtjgcbnngjfchhaaDoor
open Go.ChangeShapes Go.WideShapes Go.ChangeAt Go.RowKit Go.Deep Go.Joins

/-- a slice of integers, as the list of them -/
def Ints (w : World) (A : Option Addr) (n c : Nat) (xs : List Int) : Prop := n = xs.length ∧ Reads w 1 A n c (xs.map (Value.int .i64))
theorem Ints.below {w w' : World} {A : Option Addr} {n c : Nat} {xs : List Int} (h : Ints w A n c xs) (hb : Below w.heap.size w w') : Ints w' A n c xs := ⟨h.1, h.2.below hb⟩
theorem Ints.at_ {w : World} {A : Option Addr} {n c : Nat} {xs : List Int} (h : Ints w A n c xs) (k : Nat) (hk : k < n) : ∃ b off, A = some ⟨b, off, none⟩ ∧ b < w.heap.size := by
  obtain ⟨b, off, e, hlt, _⟩ := h.2.at_ (by omega)
  exact ⟨b, off, e, hlt⟩
theorem Ints.el {w wr : World} {b off n c : Nat} {xs : List Int} (h : Ints w (some ⟨b, off, none⟩) n c xs) {B : Nat} (hb : Below B w wr) (hbl : b < B) (k : Nat) (hk : k < n) :
    ∃ s, Hid (xs[k]? = some s) ∧ wr.cell? ⟨b, off + k, none⟩ = some (.int .i64 s) := by
  obtain ⟨b', off', e, _, hc⟩ := h.2.at_ (by omega)
  injection e with e; injection e with e1 e2
  subst e1; subst e2
  have hl : k < xs.length := by rw [← h.1]; exact hk
  exact ⟨xs[k], List.getElem?_eq_getElem hl, (hb.cell (p := ⟨b, off + k, none⟩) hbl).trans (hc k _ (by simp [hl]))⟩
theorem own_ints {w : World} {base : Nat} {e : TypeId} {A : Option Addr} {n c : Nat} {xs : List Int} (h : w.ownsRow base e 1 (.slice A n c) n (xs.map (Value.int .i64))) : Ints w A n c xs :=
  ⟨by have := h.1; simpa using this.symm, Reads.of_own h⟩
theorem own_ints_ {w : World} {base : Nat} {e : TypeId} {v : Value} {n : Nat} {xs : List Int} (h : w.ownsRow base e 1 v n (xs.map (Value.int .i64))) : ∃ A c, v = .slice A n c ∧ Ints w A n c xs := by
  rcases h.2 with ⟨hv, hn⟩ | ⟨g, cap, cur, hv, _⟩
  · subst hv
    subst hn
    exact ⟨none, _, rfl, own_ints h⟩
  · subst hv
    exact ⟨_, _, rfl, own_ints h⟩
theorem open_ints_ {H : Type} {enc : TypeId × Value → H} {P : Program} {w : World} {base : Nat} {spare : Nat → Bool} {held : Bool}
    {t e : TypeId} {v : Value} {r : Reach} {b0 : Nat} {d : DataW H} {p : List MemPlace} (ht : P.underlying t = some (.slice e)) (he : P.underlying e = some (.int .i64)) (hC : P.cellsOf e = 1)
    (hv : Value.okWide P w r b0 t v) (h : DataW.Trod enc P w base spare held t v d p) :
    ∃ (A : Option Addr) (n c : Nat) (xs : List Int), v = .slice A n c ∧ Ints w A n c xs := by
  obtain ⟨A, n, c, el, fuel, rfl, hr, hl, he2⟩ := open_row ht hC (by omega) hv h
  have hex : ∀ i, ∃ s : Int, i < n → el i = [.int .i64 s] := fun i => by
    by_cases hlt : i < n
    · obtain ⟨y, hy⟩ := he2 i hlt
      obtain ⟨s, hs, _⟩ := DataW.trod_int he hy
      exact ⟨s, fun _ => hs⟩
    · exact ⟨0, fun h => absurd h hlt⟩
  obtain ⟨X, hX⟩ := Classical.axiomOfChoice hex
  refine ⟨A, n, c, (List.range n).map X, rfl, by simp, ?_⟩
  have : ((List.range n).map X).map (Value.int .i64) = (List.range n).flatMap el := by
    rw [congr_flat (g := fun i => [Value.int .i64 (X i)]) (fun i hi => hX i (by simpa using hi)), List.map_map, List.map_eq_flatMap]
    rfl
  rw [this]
  exact hr

set_option maxRecDepth 100000 in
set_option maxHeartbeats 1000000 in
theorem eqInts_any (A B : Option Addr) (n c m d : Nat) (xs ys : List Int) (w : World) (hx : Ints w A n c xs) (hy : Ints w B m d ys) :
    Calls Tryd.prog 10 #[.slice A n c, .slice B m d] w fun e w' => e = .returned (.bool (decide (xs = ys))) ∧ Below w.heap.size w w' := by
  have hcm := hx.2.cap
  have hnc := hx.2.le
  have hdm := hy.2.cap
  have hmd := hy.2.le
  have HX := Lib.hid hx.1
  have HY := Lib.hid hy.1
  unfold maxLen at hcm hdm
  by_cases hnm : n = m
  · subst hnm
    go_enter Tryd.func10, Tryd.ntmps10
    go_wp2
    go_loopw [5] (fun i wr => ∃ (k : Nat), k ≤ n ∧ i = .int .i64 k ∧ Hid (xs.take k = ys.take k) ∧ Below w.heap.size w wr) (fun i _ => n - (intOf i).toNat)
    case atStart => exact ⟨0, Nat.zero_le _, rfl, rfl, Below.refl _ _⟩
    case round =>
      obtain ⟨k, hk, rfl, hq, hb⟩ := hrel
      by_cases hlt : k < n
      · obtain ⟨b, off, rfl, hbl⟩ := hx.at_ k hlt
        obtain ⟨s, hs, c0⟩ := hx.el hb hbl k hlt
        obtain ⟨b2, off2, rfl, hbl2⟩ := hy.at_ k hlt
        obtain ⟨t, ht, c1⟩ := hy.el hb hbl2 k hlt
        by_cases hst : s = t
        · have HQ := Lib.hid (show xs.take (k + 1) = ys.take (k + 1) by rw [List.take_add_one, List.take_add_one, hq.out, hs.out, ht.out, hst])
          have hbw : b < wr.heap.size := Nat.lt_of_lt_of_le hbl hb.size
          have hbw2 : b2 < wr.heap.size := Nat.lt_of_lt_of_le hbl2 hb.size
          subst hst
          have hq0 : (s != s) = false := by simp
          have hj0 : (0 : Int) ≤ (k : Int) := Int.natCast_nonneg _
          have hj1 : (k : Int) < (n : Int) := by omega
          go_wp2
          refine wp_region_later (by kernel_rfl) (by kernel_rfl) ?_
          repeat (go_big_quiet_step (fail))
          refine wpQuiet_nil ?_
          intro w2 hw2; have h2 := later_below hw2; clear hw2
          go_wp2
          go_roundw
          case rel => exact ⟨k + 1, by omega, by go_num, HQ, next hb h2⟩
          case measure => simp [intOf]; omega
        · have hne : (s != t) = true := by simpa using hst
          have HF := Lib.hid (show decide (xs = ys) = false by
            rw [decide_eq_false_iff_not]
            intro e
            have h1 := hs.out
            rw [e, ht.out] at h1
            exact hst (Option.some.inj h1).symm)
          clear hst
          have hbw : b < wr.heap.size := Nat.lt_of_lt_of_le hbl hb.size
          have hbw2 : b2 < wr.heap.size := Nat.lt_of_lt_of_le hbl2 hb.size
          have hj0 : (0 : Int) ≤ (k : Int) := Int.natCast_nonneg _
          have hj1 : (k : Int) < (n : Int) := by omega
          go_wp2
          refine wp_region_later (by kernel_rfl) (by kernel_rfl) ?_
          repeat (go_big_quiet_step (fail))
          refine wpQuiet_nil ?_
          intro w2 hw2; have h2 := later_below hw2; clear hw2
          go_wp2
          go_ret
          exact ⟨by rw [HF.out]; rfl, next hb h2⟩
      · have HT := Lib.hid (show decide (xs = ys) = true by
          have := hq.out
          rw [List.take_of_length_le (by have := HX.out; omega), List.take_of_length_le (by have := HY.out; omega)] at this
          exact decide_eq_true this)
        clear hq
        go_wp2
        go_ret
        exact ⟨by rw [HT.out]; rfl, hb⟩
  · have HF := Lib.hid (show decide (xs = ys) = false by
      rw [decide_eq_false_iff_not]
      intro e
      exact hnm (by rw [HX.out, HY.out, e]))
    go_enter Tryd.func10, Tryd.ntmps10
    go_wp2
    go_ret
    exact ⟨by rw [HF.out]; rfl, Below.refl _ _⟩


set_option maxRecDepth 100000 in
set_option maxHeartbeats 1000000 in
theorem toInts_any (A : Option Addr) (n c : Nat) (xs : List Int) (w : World) (hx : Ints w A n c xs) (hn : n ≤ 1048576) :
    Calls Tryd.prog 44 #[.slice A n c] w fun e w' => e = .returned (.slice (some ⟨w.heap.size, 0, none⟩) n n) ∧ w'.ownsRow w.heap.size 2 1 (.slice (some ⟨w.heap.size, 0, none⟩) n n) n (xs.map (Value.int .i64)) ∧ Below w.heap.size w w' := by
  have hcm := hx.2.cap
  have hnc := hx.2.le
  have HX := Lib.hid hx.1
  unfold maxLen at hcm
  obtain ⟨i0, hi, hz0, hz1, hz2⟩ := info_parts infoInt
  have hmk := fun W => run_make_rowN (P := Tryd.prog) 24 2 i0 _ Tryd.underlying24 hi hz0 .i64 .i64 n n (Nat.le_refl _) (by rw [hz2]; omega) (by omega) W
  go_enter Tryd.func44, Tryd.ntmps44
  go_wp2
  go_loopw [4] (fun i wr => ∃ (k : Nat) (ys : List Value), k ≤ n ∧ i = .int .i64 k ∧ Hid (ys.take k = (xs.map (Value.int .i64)).take k) ∧
      wr.ownsRow w.heap.size 2 1 (.slice (some ⟨w.heap.size, 0, none⟩) n n) n ys ∧ Below w.heap.size w wr) (fun i _ => n - (intOf i).toNat)
  case atStart => exact ⟨0, (madeCells #[.int .i64 0] n).toList, Nat.zero_le _, rfl, rfl, World.ownsRow_lit w _ n (Nat.le_refl _) (by unfold maxLen; omega) (by rw [size_madeCells]; omega), (Below.refl _ _).alloc (Nat.le_refl _) _⟩
  case round =>
    obtain ⟨k, ys, hk, rfl, hys, hown, hb⟩ := hrel
    by_cases hlt : k < n
    · obtain ⟨b, off, rfl, hbl⟩ := hx.at_ k hlt
      obtain ⟨s, hs, c0⟩ := hx.el hb hbl k hlt
      have hyl := hown.1
      have d0 := hown.cellAt k (by omega)
      rw [List.getElem?_eq_getElem (by omega)] at d0
      have e0 := hown.frozenAt k
      generalize ys[k] = u0 at d0
      have HS := Lib.hid (hown.stored k (.int .i64 s)).1
      have HY := Lib.hid (take_set1 ys (xs.map (Value.int .i64)) k (.int .i64 s) hys.out (by rw [List.length_map, ← HX.out]; omega) (by rw [List.getElem?_map, hs.out]; rfl))
      clear hys hown
      go_wp2
      go_roundw
      case rel => exact ⟨k + 1, _, by omega, by go_num, HY, HS.out, hb.setCell (Nat.le_refl _) _⟩
      case measure => simp [intOf]; omega
    · have hyl := hown.1
      have hys' : ys = xs.map (Value.int .i64) := by
        have := hys.out
        rw [List.take_of_length_le (by omega), List.take_of_length_le (by rw [List.length_map, ← HX.out]; omega)] at this
        exact this
      rw [hys'] at hown
      have HO := Lib.hid hown
      clear hys hys' hyl hown
      go_wp2
      go_ret
      exact ⟨rfl, HO.out, hb⟩


/-- marks of integers -/
def imarks (k n : Nat) : List Int := (List.range n).map fun i => ((k + i : Nat) : Int)
theorem imarks_len (k n : Nat) : (imarks k n).length = n := by simp [imarks]
theorem imarks_at (k n i : Nat) (h : i < n) : (imarks k n)[i]? = some ((k + i : Nat) : Int) := by
  unfold imarks
  rw [List.getElem?_map, List.getElem?_range h]; rfl

set_option maxRecDepth 100000 in
set_option maxHeartbeats 1000000 in
theorem markInts_any (base k n : Nat) (v : Value) (xs : List Int) (w : World) (hown : w.ownsRow base 2 1 v n (xs.map (Value.int .i64))) (hk : 0 < k) (hm : k + n ≤ 1000000000000) (hbase : base ≤ w.heap.size) :
    Calls Tryd.prog 13 #[v, .int .i64 k] w fun e w' => e = .returned (.int .i64 (k + n : Nat)) ∧ w'.ownsRow base 2 1 v n ((imarks k n).map (Value.int .i64)) ∧ Below base w w' := by
  have hxl : xs.length = n := by have := hown.1; simpa using this
  have hform : ∃ A c, v = .slice A n c ∧ n ≤ c ∧ c ≤ maxLen ∧ (0 < n → ∃ g, A = some ⟨g, 0, none⟩ ∧ base ≤ g ∧ g < w.heap.size) := by
    rcases hown.2 with ⟨hv, hn⟩ | ⟨g, cap, cur, hv, hb, hg, hnc, hcm, _⟩
    · subst hv
      exact ⟨none, 0, by rw [hn], by omega, by unfold maxLen; omega, fun h => by omega⟩
    · subst hv
      exact ⟨_, _, rfl, hnc, hcm, fun _ => ⟨g, rfl, (hown.lt g rfl)⟩⟩
  obtain ⟨A, c, rfl, hnc, hcm, hA⟩ := hform
  unfold maxLen at hcm
  go_enter Tryd.func13, Tryd.ntmps13
  go_wp2
  go_loopw [1, 5] (fun q i wr => ∃ (j : Nat) (ys : List Int), j ≤ n ∧ i = .int .i64 j ∧ q = .int .i64 (k + j : Nat) ∧ Hid (ys.take j = (imarks k n).take j) ∧ Hid (wr.ownsRow base 2 1 (.slice A n c) n (ys.map (Value.int .i64))) ∧ Below base w wr) (fun _ i _ => n - (intOf i).toNat)
  case atStart => exact ⟨0, xs, Nat.zero_le _, rfl, by simp, rfl, hown, Below.refl _ _⟩
  case round =>
    clear hown
    obtain ⟨j, ys, hj, rfl, rfl, hys, ho, hb⟩ := hrel
    have hyl : ys.length = n := by have := ho.out.1; simpa using this
    by_cases hlt : j < n
    · obtain ⟨g, rfl, hg1, hg2⟩ := hA (by omega)
      have hown2 := ho.out
      have d0 := hown2.cellAt j (by omega)
      rw [List.getElem?_map, List.getElem?_eq_getElem (by omega)] at d0
      have f0 := hown2.frozenAt j
      have hst := (hown2.stored j (.int .i64 (k + j : Nat))).1
      rw [← List.map_set] at hst
      have HST := Lib.hid hst
      have HY := Lib.hid (take_set1 ys (imarks k n) j ((k + j : Nat) : Int) hys.out (by rw [hyl, imarks_len]) (imarks_at k n j hlt))
      simp only [Option.map_some] at d0
      clear hst hys hown2 ho
      generalize ys[j] = u0 at d0
      go_wp2
      go_roundw
      case rel => exact ⟨j + 1, _, by omega, by go_num, by go_num, HY.out, HST, hb.setCell hg1 _⟩
      case measure => simp [intOf]; omega
    · obtain rfl : j = n := by omega
      have hE : ys = imarks k j := by
        have := hys.out
        rw [List.take_of_length_le (by omega), List.take_of_length_le (by rw [imarks_len]; omega)] at this
        exact this
      rw [hE] at ho
      clear hE hys
      go_wp2
      go_ret
      exact ⟨rfl, ho.out, hb⟩

set_option maxRecDepth 100000 in
set_option maxHeartbeats 1000000 in
theorem heldInts_any (k n c : Nat) (A : Option Addr) (w : World) (hx : Ints w A n c (imarks k n)) (hk : 0 < k) (hm : k + n ≤ 1000000000000) :
    Calls Tryd.prog 14 #[.slice A n c, .int .i64 k] w fun e w' => e = .returned (.int .i64 (k + n : Nat)) ∧ Below w.heap.size w w' := by
  have hcm := hx.2.cap
  have hnc := hx.2.le
  unfold maxLen at hcm
  go_enter Tryd.func14, Tryd.ntmps14
  go_wp2
  go_loopw [1, 5] (fun q i wr => ∃ (j : Nat), j ≤ n ∧ i = .int .i64 j ∧ q = .int .i64 (k + j : Nat) ∧ Below w.heap.size w wr) (fun _ i _ => n - (intOf i).toNat)
  case atStart => exact ⟨0, Nat.zero_le _, rfl, by simp, Below.refl _ _⟩
  case round =>
    obtain ⟨j, hj, rfl, rfl, hb⟩ := hrel
    by_cases hlt : j < n
    · obtain ⟨b, off, rfl, hbl⟩ := hx.at_ j hlt
      obtain ⟨t, ht, c0⟩ := hx.el hb hbl j hlt
      have e : t = ((k + j : Nat) : Int) := by have := ht.out; rw [imarks_at k n j hlt] at this; exact (Option.some.inj this).symm
      subst e
      have hq0 : (((k + j : Nat) : Int) != ((k + j : Nat) : Int)) = false := by simp
      have hbw : b < wr.heap.size := Nat.lt_of_lt_of_le hbl hb.size
      have hj0 : (0 : Int) ≤ (j : Int) := Int.natCast_nonneg _
      have hj1 : (j : Int) < (n : Int) := by omega
      go_wp2
      go_roundw
      case rel => exact ⟨j + 1, by omega, by go_num, by go_num, hb⟩
      case measure => simp [intOf]; omega
    · obtain rfl : j = n := by omega
      go_wp2
      go_ret
      exact ⟨rfl, hb⟩


end Go.Proofs.YtjgcbnngjfchhaaDoor
namespace Go.Proofs.YtjgcbnngjfchhaaDoor
open Go.ChangeShapes Go.WideShapes Go.ChangeAt Go.RowKit

theorem grown_refl (w : World) (row : Option Nat) : w.grownBy w row := ⟨rfl, rfl, rfl, Nat.le_refl _, fun _ _ _ => rfl⟩
theorem grown_trans {a b c : World} {row : Option Nat} (h : a.grownBy b row) (h2 : b.grownBy c row) : a.grownBy c row :=
  ⟨h2.os.trans h.os, h2.tape.trans h.tape, h2.output.trans h.output, Nat.le_trans h.size h2.size, fun k hk hne => (h2.block k (Nat.lt_of_lt_of_le hk h.size) hne).trans (h.block k hk hne)⟩
theorem grown_below {w w' : World} {row : Option Nat} (h : Below w.heap.size w w') : w.grownBy w' row := ⟨h.os, h.tape, h.output, h.size, fun k hk _ => h.block k hk⟩
theorem grown_set (w : World) (g j : Nat) (u : Value) : w.grownBy (w.setCell ⟨g, j, none⟩ u) (some g) := by
  have h := (Below.refl g w).setCell (p := ⟨g, j, none⟩) (Nat.le_refl _) u
  exact ⟨h.os, h.tape, h.output, h.size, fun k _ hne => Below.heap_setCell _ _ _ k (fun e => hne (by rw [e]))⟩
/-- what lies above the marked slice stays its own -/
theorem own_grown {w w' : World} {base g : Nat} {e : TypeId} {size : Nat} {v : Value} {n : Nat} {xs : List Value} (h : w.ownsRow base e size v n xs) (hg : w.grownBy w' (some g)) (hlt : g < base) : w'.ownsRow base e size v n xs := by
  refine h.kept hg ?_
  cases hv : v.ownBlock with
  | none => exact .inl rfl
  | some k =>
    refine .inr fun e => ?_
    have := (h.lt k hv).1
    injection e with e
    omega
theorem below_grown {B g : Nat} {a w w' : World} (h : Below B a w) (hg : w.grownBy w' (some g)) (hB : B ≤ a.heap.size) (hgB : B ≤ g) : Below B a w' :=
  h.grown hg (Nat.le_trans hB h.size) (fun k hk => by injection hk with hk; omega)

set_option maxRecDepth 100000 in
set_option maxHeartbeats 1000000 in
theorem markInts_own (base k n g : Nat) (xs : List Int) (w : World) (hown : w.ownsRow base 2 1 (.slice (some ⟨g, 0, none⟩) n n) n (xs.map (Value.int .i64))) (hk : 0 < k) (hm : k + n ≤ 1000000000000) :
    Calls Tryd.prog 13 #[.slice (some ⟨g, 0, none⟩) n n, .int .i64 k] w fun e w' => e = .returned (.int .i64 (k + n : Nat)) ∧ w.grownBy w' (some g) := by
  have hxl : xs.length = n := by have := hown.1; simpa using this
  have hcm : n ≤ maxLen := by
    rcases hown.2 with ⟨hv, hn⟩ | ⟨g, cap, cur, hv, hb, hg, hnc, hcm, _⟩
    · cases hv
    · injection hv with _ _ e
      omega
  unfold maxLen at hcm
  go_enter Tryd.func13, Tryd.ntmps13
  go_wp2
  go_loopw [1, 5] (fun q i wr => ∃ (j : Nat) (ys : List Int), j ≤ n ∧ i = .int .i64 j ∧ q = .int .i64 (k + j : Nat) ∧ Hid (wr.ownsRow base 2 1 (.slice (some ⟨g, 0, none⟩) n n) n (ys.map (Value.int .i64))) ∧ Hid (w.grownBy wr (some g))) (fun _ i _ => n - (intOf i).toNat)
  case atStart => exact ⟨0, xs, Nat.zero_le _, rfl, by simp, hown, grown_refl _ _⟩
  case round =>
    clear hown hxl
    obtain ⟨j, ys, hj, rfl, rfl, ho, hb⟩ := hrel
    have hyl : ys.length = n := by have := ho.out.1; simpa using this
    by_cases hlt : j < n
    · have hown2 := ho.out
      have d0 := hown2.cellAt j (by omega)
      rw [List.getElem?_map, List.getElem?_eq_getElem (by omega)] at d0
      have f0 := hown2.frozenAt j
      have hst := (hown2.stored j (.int .i64 (k + j : Nat))).1
      rw [← List.map_set] at hst
      have HST := Lib.hid hst
      have HB := Lib.hid (grown_trans hb.out (grown_set wr g j (.int .i64 (k + j : Nat))))
      simp only [Option.map_some] at d0
      clear hst hown2 ho hb
      generalize ys[j] = u0 at d0
      go_wp2
      go_roundw
      case rel => exact ⟨j + 1, _, by omega, by go_num, by go_num, HST, HB⟩
      case measure => simp [intOf]; omega
    · obtain rfl : j = n := by omega
      go_wp2
      go_ret
      exact ⟨rfl, hb.out⟩
end Go.Proofs.YtjgcbnngjfchhaaDoor
namespace Go.Proofs.YtjgcbnngjfchhaaDoor
open Go.ChangeShapes Go.WideShapes Go.ChangeAt Go.RowKit

structure Zone (lo hi : Nat) (w w' : World) : Prop where
  os : w'.os = w.os
  tape : w'.tape = w.tape
  output : w'.output = w.output
  size : w.heap.size ≤ w'.heap.size
  block : ∀ k, k < w.heap.size → (k < lo ∨ hi ≤ k) → w'.heap[k]? = w.heap[k]?
theorem Zone.refl (lo hi : Nat) (w : World) : Zone lo hi w w := ⟨rfl, rfl, rfl, Nat.le_refl _, fun _ _ _ => rfl⟩
theorem Zone.trans {lo hi : Nat} {a b c : World} (h : Zone lo hi a b) (h2 : Zone lo hi b c) : Zone lo hi a c :=
  ⟨h2.os.trans h.os, h2.tape.trans h.tape, h2.output.trans h.output, Nat.le_trans h.size h2.size, fun k hk hne => (h2.block k (Nat.lt_of_lt_of_le hk h.size) hne).trans (h.block k hk hne)⟩
theorem Zone.of_below {lo hi : Nat} {w w' : World} (h : Below w.heap.size w w') : Zone lo hi w w' := ⟨h.os, h.tape, h.output, h.size, fun k hk _ => h.block k hk⟩
theorem Zone.of_grown {lo hi g : Nat} {w w' : World} (h : w.grownBy w' (some g)) (h1 : lo ≤ g) (h2 : g < hi) : Zone lo hi w w' :=
  ⟨h.os, h.tape, h.output, h.size, fun k hk hne => h.block k hk (fun e => by injection e with e; omega)⟩
theorem Zone.wider {lo hi lo' hi' : Nat} {w w' : World} (h : Zone lo hi w w') (h1 : lo' ≤ lo) (h2 : hi ≤ hi') : Zone lo' hi' w w' :=
  ⟨h.os, h.tape, h.output, h.size, fun k hk hne => h.block k hk (by omega)⟩
theorem Zone.set {lo hi : Nat} (w : World) (g j : Nat) (u : Value) (h1 : lo ≤ g) (h2 : g < hi) : Zone lo hi w (w.setCell ⟨g, j, none⟩ u) := Zone.of_grown (grown_set w g j u) h1 h2
theorem below_zone {B lo hi : Nat} {a w w' : World} (h : Below B a w) (hz : Zone lo hi w w') (hB : B ≤ a.heap.size) (hl : B ≤ lo) : Below B a w' :=
  h.trans ⟨hz.os, hz.tape, hz.output, hz.size, fun k hk => hz.block k (Nat.lt_of_lt_of_le hk (Nat.le_trans hB h.size)) (by omega)⟩
theorem own_block {w w' : World} {base : Nat} {e : TypeId} {size : Nat} {v : Value} {n : Nat} {xs : List Value} (h : w.ownsRow base e size v n xs) (hb : ∀ k, v.ownBlock = some k → w'.heap[k]? = w.heap[k]?) : w'.ownsRow base e size v n xs := by
  refine ⟨h.1, h.2.imp id fun ⟨g, cap, cur, h1, h2, h3, r⟩ => ⟨g, cap, cur, h1, h2, ?_, r⟩⟩
  rw [hb g (by rw [h1]; rfl)]
  exact h3
theorem own_zone {w w' : World} {base lo hi : Nat} {e : TypeId} {size : Nat} {v : Value} {n : Nat} {xs : List Value} (h : w.ownsRow base e size v n xs) (hz : Zone lo hi w w') (hb : ∀ k, v.ownBlock = some k → k < lo ∨ hi ≤ k) : w'.ownsRow base e size v n xs :=
  own_block h fun k hk => hz.block k (h.lt k hk).2 (hb k hk)
theorem own_above {w w' : World} {base lo hi : Nat} {e : TypeId} {size : Nat} {v : Value} {n : Nat} {xs : List Value} (h : w.ownsRow base e size v n xs) (hz : Zone lo hi w w') (hl : hi ≤ base) : w'.ownsRow base e size v n xs :=
  own_zone h hz fun k hk => .inr (Nat.le_trans hl (h.lt k hk).1)
end Go.Proofs.YtjgcbnngjfchhaaDoor
namespace Go.Proofs.YtjgcbnngjfchhaaDoor
open Go.RowKit

section
variable {P : Program} {ops : Array Oper} {md : Region.Mode} {C : World → Prop}

/-- each operation ahead of number n that is not among the first m is awaited by a later one, up to number n -/
def sinkFrom (md : Region.Mode) (ops : Array Oper) (m n : Nat) : Bool :=
  (List.range n).all fun i => decide (i < m) || (List.range (n + 1)).any fun j => decide (i < j) && Region.waitsFor md ops j i
def Led (m : Nat) (listed : Array Bool) : Prop := ∀ i, i < m → listed.getD i true = true

theorem Led.set {m i : Nat} {listed : Array Bool} (h : Led m listed) : Led m (listed.setIfInBounds i true) := fun j hj => by
  by_cases e : i = j
  · subst e
    rcases Nat.lt_or_ge i listed.size with h' | h'
    · simp [h']
    · simp [Array.getElem?_eq_none, h']
  · rw [getD_set_ne true e]; exact h j hj
theorem Led.succ {m : Nat} {listed : Array Bool} (h : Led m listed) : Led (m + 1) (listed.setIfInBounds m true) := fun j hj => by
  by_cases e : m = j
  · subst e
    rcases Nat.lt_or_ge m listed.size with h' | h'
    · simp [h']
    · simp [Array.getElem?_eq_none, h']
  · rw [getD_set_ne true e]; exact h j (by omega)

theorem tail_waits_ {m n : Nat} {listed : Array Bool} (hs : sinkFrom md ops m n = true) (hc : Region.chainB md ops n = true) (hn : n < ops.size) (inv : HeadInv md ops n listed) (hL : Led m listed) :
    ∀ (d i : Nat), n - i = d → i < n → listed.getD i true = false → ∀ t, n ≤ t → t ∉ Region.ready md ops listed := by
  intro d
  induction d using Nat.strongRecOn with
  | _ d ih =>
    intro i hd hi hun t ht hr
    obtain ⟨_, ot, hot, hall⟩ := mem_ready.1 hr
    have htlt : t < ops.size := (Array.getElem?_eq_some_iff.1 hot).1
    by_cases htn : t = n
    · subst htn
      have h1 := List.all_eq_true.1 hs i (List.mem_range.2 hi)
      have him : ¬ i < m := fun h => by rw [hL i h] at hun; cases hun
      rw [Bool.or_eq_true] at h1
      rcases h1 with h1 | h1
      · exact absurd (of_decide_eq_true h1) him
      obtain ⟨j, hj, hj2⟩ := List.any_eq_true.1 h1
      simp only [Bool.and_eq_true, decide_eq_true_eq] at hj2
      obtain ⟨oj, hoj, e, he, hb, hon⟩ := Region.waitsFor_spec hj2.2
      have hjle : j ≤ t := by have := List.mem_range.1 hj; omega
      by_cases hjt : j = t
      · subst hjt
        have : oj = ot := Option.some.inj (hoj.symm.trans hot)
        subst this
        have h2 := hall e he hb
        rw [hon, getD_both hun] at h2
        cases h2
      · cases hl : listed.getD j false with
        | true =>
          have h2 := inv.closed j oj hoj hl e he hb
          rw [hon, getD_both hun] at h2
          cases h2
        | false =>
          have hjs : j < listed.size := by rw [inv.size]; omega
          exact ih (t - j) (by omega) j rfl (by omega) (getD_in hjs hl) t (Nat.le_refl _) hr
    · have h1 := List.all_eq_true.1 hc t (List.mem_range.2 htlt)
      simp only [Bool.or_eq_true, decide_eq_true_eq] at h1
      rcases h1 with h1 | h1
      · omega
      · obtain ⟨o', ho', e, he, hb, hon⟩ := Region.waitsFor_spec h1
        have : o' = ot := Option.some.inj (ho'.symm.trans hot)
        subst this
        have h2 := hall e he hb
        rw [hon, getD_both (inv.tail (t - 1) (by omega) (by omega))] at h2
        cases h2

def wpMix (P : Program) (md : Region.Mode) (ops : Array Oper) (C : World → Prop) (n : Nat) (L : Array Bool → Act → Prop) : Nat → Array Bool → Act → Prop
  | 0, listed, a => L listed a
  | f + 1, listed, a => Region.ready md ops listed ≠ [] ∧ ∀ i ∈ Region.ready md ops listed, i < n ∧ qOp P ops C i (wpMix P md ops C n L f (listed.setIfInBounds i true)) a

theorem wpAny_of_mix {n g : Nat} {L : Array Bool → Act → Prop} {Q' : Exit → Act → World → Prop} (hL : ∀ listed a w, C w → L listed a → wpAny P md ops Q' g listed a w) :
    ∀ (f : Nat) (listed : Array Bool) (a : Act) (w : World), C w → wpMix P md ops C n L f listed a → wpAny P md ops Q' (f + g) listed a w
  | 0, listed, a, w, hw, h => by rw [Nat.zero_add]; exact hL _ _ _ hw h
  | f + 1, listed, a, w, hw, h => by
    rw [show f + 1 + g = (f + g) + 1 by omega]
    exact ⟨fun h0 => absurd h0 h.1, fun i hi => wpOp_of_qOp hw (fun a' w' hw' h' => wpAny_of_mix hL f _ a' w' hw' h') (h.2 i hi).2⟩

theorem wpMix_first {m n i : Nat} {oi : Oper} {v : Value} {L : Array Bool → Act → Prop} (hi : ops[i]? = some oi) (hsel : ∀ (j : Nat) (o : Oper) cs b, ops[j]? = some o → o.op ≠ .select cs b)
    (hs : sinkFrom md ops m n = true) (hc : Region.chainB md ops n = true) (hn : n < ops.size) (hin : i < n)
    (hdone : ∀ listed a, L listed a → ∀ j ∈ Region.ready md ops listed, n ≤ j) :
    ∀ (f : Nat) (listed : Array Bool) (a : Act), HeadInv md ops n listed → Led m listed →
      (∀ j oj, ops[j]? = some oj → j ≠ i → listed.getD j true = false → (∀ e ∈ oj.after, Region.binds md e = true → e.on ≠ i) → oi.apart ops oj = true) →
      i ∈ Region.ready md ops listed → YieldsIn P ops C oi v a →
      wpMix P md ops C n L f (listed.setIfInBounds i true) (a.put oi.dst v) → wpMix P md ops C n L (f + 1) listed a := by
  intro f
  induction f with
  | zero =>
    intro listed a inv hld _ hr hy H
    have hun := (mem_ready.1 hr).1
    refine ⟨fun h => (by rw [h] at hr; cases hr), fun j hj => ?_⟩
    have hjn : j < n := by
      rcases Nat.lt_or_ge j n with h | h
      · exact h
      · exact absurd hj (tail_waits_ hs hc hn inv hld _ i rfl hin hun j h)
    refine ⟨hjn, ?_⟩
    by_cases hji : j = i
    · subst hji; exact hy.qOp hi H
    · have := hdone _ _ H j (ready_mono hj hji)
      omega
  | succ f ih =>
    intro listed a inv hld hfree hr hy H
    have hun := (mem_ready.1 hr).1
    refine ⟨fun h => (by rw [h] at hr; cases hr), fun j hj => ?_⟩
    have hjn : j < n := by
      rcases Nat.lt_or_ge j n with h | h
      · exact h
      · exact absurd hj (tail_waits_ hs hc hn inv hld _ i rfl hin hun j h)
    refine ⟨hjn, ?_⟩
    by_cases hji : j = i
    · subst hji; exact hy.qOp hi H
    · have h1 := (H.2 j (ready_mono hj hji)).2
      obtain ⟨hjun, oj, hoj, hall⟩ := mem_ready.1 hj
      have hnot : ∀ e ∈ oj.after, Region.binds md e = true → e.on ≠ i := fun e he hb heq => by
        have h1 := hall e he hb
        rw [heq, getD_both hun] at h1
        cases h1
      have h2 := qOp_put hoj (hfree j oj hoj hji hjun hnot) (fun cs b => hsel i oi cs b hi) (fun cs b => hsel j oj cs b hoj) hy h1
      have hfree' : ∀ k ok, ops[k]? = some ok → k ≠ i → (listed.setIfInBounds j true).getD k true = false →
          (∀ e ∈ ok.after, Region.binds md e = true → e.on ≠ i) → oi.apart ops ok = true := fun k ok hk hki hun hno => by
        refine hfree k ok hk hki ?_ hno
        by_cases hjk : j = k
        · subst hjk; exact hjun
        · rw [getD_set_ne true hjk] at hun; exact hun
      refine qOp_mono (fun a' h3 => ih (listed.setIfInBounds j true) a' (inv.set hj hjn) hld.set hfree' (ready_mono hr (Ne.symm hji)) h3.1 ?_) h2
      rw [Array.setIfInBounds_comm _ _ hji]
      exact h3.2

theorem wpMix_lex {m n g : Nat} {Lq : Act → Prop} (hsel : Region.noSelect ops = true) (hs : sinkFrom md ops m n = true) (hc : Region.chainB md ops n = true) (hn : n < ops.size) :
    ∀ (l : List Oper) (k : Nat) (listed : Array Bool) (a : Act), (∀ j, j < l.length → l[j]? = ops[k + j]?) → k + l.length = n → HeadInv md ops n listed → Led m listed →
    Region.lexHead md ops g l.length k listed = true → wpQuiet P ops C Lq l a →
    wpMix P md ops C n (fun listed' a' => Region.seqB md ops g n listed' = true ∧ Lq a') l.length listed a
  | [], k, listed, a, _, hk, _, _, hB, h => by
    have : k = n := by simpa using hk
    subst this
    exact ⟨by simpa [Region.lexHead] using hB, h⟩
  | o :: l, k, listed, a, hl, hk, inv, hld, hB, h => by
    have h0 : ops[k]? = some o := by simpa using (hl 0 (by simp)).symm
    simp only [List.length_cons, Region.lexHead, Bool.and_eq_true] at hB
    obtain ⟨⟨hr, hf⟩, hB'⟩ := hB
    have hkn : k < n := by simp only [List.length_cons] at hk; omega
    have hr' : k ∈ Region.ready md ops listed := by simpa using hr
    have hst : qOp P ops C k (wpQuiet P ops C Lq l) a := by unfold qOp; simp only [h0]; exact h
    obtain ⟨v, hy, hK⟩ := yieldsIn_of_qOp h0 hst
    exact wpMix_first h0 (Region.noSelect_spec hsel) hs hc hn hkn (fun listed' a' hL => seqB_ready hL.1) l.length listed a inv hld (Region.free_spec h0 hf) hr' hy
      (wpMix_lex hsel hs hc hn l (k + 1) _ _ (fun j hj => by have := hl (j + 1) (by simp; omega); simpa [Nat.add_assoc, Nat.add_comm 1 j] using this) (by simp only [List.length_cons] at hk; omega) (inv.set hr' hkn) hld.set hB' hK)

/-- the first m operations are plain copies -/
def leadB : Nat → List Oper → Bool
  | 0, _ => true
  | _ + 1, [] => false
  | m + 1, o :: l => (match o.op with | .move _ => true | _ => false) && o.guard.isNone && leadB m l

theorem put_tmps (a : Act) (d : Option Tmp) (v : Value) : ∃ t, a.put d v = { a with tmps := t } := by
  cases d with
  | none => exact ⟨a.tmps, rfl⟩
  | some d => exact ⟨_, rfl⟩
theorem lead_step {Q : Act → Prop} {o : Oper} {rest : List Oper} {a : Act} {w : World} {x : Operand} (ho : o.op = .move x) (hg : o.guard = none) (hw : C w) (h : wpQuiet P ops C Q (o :: rest) a) :
    wpQuiet P ops C Q rest (a.put o.dst (a.eval x)) := by
  have hwant : Region.wanted o (yielded ops a.tmps) = true := by unfold Region.wanted; rw [hg]
  unfold wpQuiet at h
  rw [if_pos hwant] at h
  obtain ⟨v, hv, hK⟩ := h
  have h1 := hv w hw
  unfold Oper.quietAt at h1
  rw [BigFrame.run_move x ho] at h1
  obtain ⟨_, e⟩ := h1
  rw [e]
  exact hK

theorem wpAny_lead {m0 n g : Nat} {Lq : Act → Prop} {Q : Exit → Act → World → Prop} {w : World} (hsel : Region.noSelect ops = true) (hQ : ∀ c (a : Act) (t : Array Value) w, Q (.panic c) { a with tmps := t } w → Q (.panic c) a w) (hw : C w) (hn : n < ops.size)
    (rest : ∀ (l : List Oper) (listed : Array Bool) (a : Act), (∀ j, j < l.length → l[j]? = ops[m0 + j]?) → m0 + l.length = n → HeadInv md ops n listed → Led m0 listed → Region.lexHead md ops g l.length m0 listed = true → wpQuiet P ops C Lq l a →
      wpAny P md ops Q (l.length + g) listed a w) :
    ∀ (m k : Nat) (l : List Oper) (listed : Array Bool) (a : Act), k + m = m0 → leadB m l = true → (∀ j, j < l.length → l[j]? = ops[k + j]?) → k + l.length = n → HeadInv md ops n listed → Led k listed →
      Region.lexHead md ops g l.length k listed = true → wpQuiet P ops C Lq l a → wpAny P md ops Q (l.length + g) listed a w
  | 0, k, l, listed, a, hkm, _, hl, hk, inv, hld, hB, h => by
    obtain rfl : k = m0 := by omega
    exact rest l listed a hl hk inv hld hB h
  | m + 1, k, [], listed, a, _, hb, _, _, _, _, _, _ => by cases hb
  | m + 1, k, o :: l, listed, a, hkm, hb, hl, hk, inv, hld, hB, h => by
    have h0 : ops[k]? = some o := by simpa using (hl 0 (by simp)).symm
    simp only [leadB, Bool.and_eq_true] at hb
    obtain ⟨⟨hmv, hgd⟩, hb'⟩ := hb
    obtain ⟨x, hx⟩ : ∃ x, o.op = .move x := by
      split at hmv
      · exact ⟨_, ‹_›⟩
      · cases hmv
    have hg : o.guard = none := by simpa using hgd
    simp only [List.length_cons, Region.lexHead, Bool.and_eq_true] at hB
    obtain ⟨⟨hr, hf⟩, hB'⟩ := hB
    have hkn : k < n := by simp only [List.length_cons] at hk; omega
    have hr' : k ∈ Region.ready md ops listed := by simpa using hr
    rw [List.length_cons, show l.length + 1 + g = (l.length + g) + 1 by omega]
    refine wpAny_first h0 (Region.noSelect_spec hsel) (fun c a' w' h' => by obtain ⟨t, ht⟩ := put_tmps a' o.dst (a.eval x); rw [ht] at h'; exact hQ c _ t w' h') _ _ _ _ (Region.free_spec h0 hf) hr' (v := a.eval x) (Or.inl ⟨by unfold Region.wanted; rw [hg], fun w' => BigFrame.run_move x hx w'⟩) ?_
    exact wpAny_lead hsel hQ hw hn rest m (k + 1) l _ _ (by omega) hb' (fun j hj => by have := hl (j + 1) (by simp; omega); simpa [Nat.add_assoc, Nat.add_comm 1 j] using this) (by simp only [List.length_cons] at hk; omega) (inv.set hr' hkn) hld.succ hB' (lead_step hx hg hw h)

/-- what the kernel is asked of the region: m leading copies, n operations of head -/
def mixB (m : Nat) (ops : Array Oper) (n : Nat) : Bool :=
  Region.noSelect ops && decide (n < ops.size) && sinkFrom .any ops m n && Region.chainB .any ops n && leadB m ops.toList && decide (m ≤ n) && Region.lexHead .any ops (ops.size - n) n 0 (Array.replicate ops.size false)

theorem leadB_take : ∀ (m n : Nat) (l : List Oper), m ≤ n → leadB m l = true → leadB m (l.take n) = true
  | 0, _, _, _, _ => rfl
  | m + 1, _, [], _, h => by cases h
  | m + 1, 0, o :: l, h, _ => by omega
  | m + 1, n + 1, o :: l, hmn, h => by
    simp only [leadB, List.take_succ_cons, Bool.and_eq_true] at h ⊢
    exact ⟨h.1, leadB_take m n l (by omega) h.2⟩

/-- m leading copies; n operations of head, quiet in the class C; what stands behind them a forced chain, walked from every world of C. -/
theorem wp_region_mix {id : Nat} {Q : Exit → Act → World → Prop} {a : Act} {w : World} {l : List Oper} (m n : Nat) (hm : P.follows .mixedOrders = true) (hB : mixB m l.toArray n = true) (hQ : ∀ c (a : Act) (t : Array Value) w, Q (.panic c) { a with tmps := t } w → Q (.panic c) a w)
    (hC : C { w with drawn := w.drawn + 1 }) (h : wpQuiet P l.toArray C (fun a' => ∀ w', C w' → wpList P l.toArray Q (l.drop n) a' w') (l.take n) a) : (Code.region id l.toArray true).wp P Q a w := by
  simp only [mixB, Bool.and_eq_true, decide_eq_true_eq] at hB
  obtain ⟨⟨⟨⟨⟨⟨hsel, hn⟩, hs⟩, hc⟩, hlead⟩, hmn⟩, hlex⟩ := hB
  have hn' : n < l.length := by simpa using hn
  have htl : (l.take n).length = n := by simp; omega
  have hdl : (l.drop n).length = l.toArray.size - n := by simp
  have inv0 : HeadInv .any l.toArray n (Array.replicate l.toArray.size false) :=
    ⟨by simp, fun j oj _ hl => (by rw [getD_replicate_false] at hl; cases hl), fun t _ ht => getD_in (by simpa using ht) (getD_replicate_false _ _)⟩
  refine wp_region_any hm ?_
  have H := wpAny_lead (md := .any) (C := C) (m0 := m) (n := n) (g := l.toArray.size - n) (w := { w with drawn := w.drawn + 1 }) hsel hQ hC hn (fun l1 listed a1 hl1 hk1 inv1 hld1 hB1 h1 =>
    wpAny_of_mix (Q' := Q) (g := l.toArray.size - n) (fun listed2 a2 w2 hw2 hL2 => by
      have := wpAny_of_seq (md := .any) (Q' := Q) (l.drop n) n listed2 a2 w2 (fun j => by simp [List.getElem?_drop]) (by rw [hdl]; exact hL2.1) (hL2.2 w2 hw2)
      rwa [hdl] at this) _ _ _ _ hC (wpMix_lex hsel hs hc hn l1 m listed a1 hl1 hk1 inv1 hld1 hB1 h1))
    m 0 (l.take n) _ a (by omega) (leadB_take m n l hmn (by simpa using hlead)) (fun j hj => by
      have hj' : j < n := by rw [htl] at hj; exact hj
      simp [hj']) (by simpa using htl) inv0 (fun i hi => absurd hi (by omega)) (by rw [htl]; exact hlex) h
  rw [htl, show n + (l.toArray.size - n) = l.toArray.size by omega] at H
  exact H

/-- at the class 'what was there is as it was' -/
theorem wp_region_tail {id : Nat} {Q : Exit → Act → World → Prop} {a : Act} {w : World} {l : List Oper} (m n : Nat) (hm : P.follows .mixedOrders = true) (hB : mixB m l.toArray n = true) (hQ : ∀ c (a : Act) (t : Array Value) w, Q (.panic c) { a with tmps := t } w → Q (.panic c) a w)
    (h : wpQuiet P l.toArray (fun w' => ∃ x : After w, w' = after x) (fun a' => ∀ w', (∃ x : After w, w' = after x) → wpList P l.toArray Q (l.drop n) a' w') (l.take n) a) : (Code.region id l.toArray true).wp P Q a w :=
  wp_region_mix (C := fun w' => ∃ x : After w, w' = after x) m n hm hB hQ ⟨⟨w.drew, (Below.refl _ _).drew⟩, rfl⟩ h
end
end Go.Proofs.YtjgcbnngjfchhaaDoor
namespace Go.Proofs.YtjgcbnngjfchhaaDoor
open Go.ChangeShapes Go.WideShapes Go.ChangeAt Go.RowKit Go.Deep Go.Joins

/-- a slice of bytes, as the list of them -/
def Bytes (w : World) (A : Option Addr) (n c : Nat) (bs : List UInt8) : Prop := n = bs.length ∧ Reads w 1 A n c (bs.map fun b => Value.int .u8 b.toNat)
theorem Bytes.below {w w' : World} {A : Option Addr} {n c : Nat} {bs : List UInt8} (h : Bytes w A n c bs) (hb : Below w.heap.size w w') : Bytes w' A n c bs := ⟨h.1, h.2.below hb⟩
theorem Bytes.at_ {w : World} {A : Option Addr} {n c : Nat} {xs : List UInt8} (h : Bytes w A n c xs) (k : Nat) (hk : k < n) : ∃ b off, A = some ⟨b, off, none⟩ ∧ b < w.heap.size := by
  obtain ⟨b, off, e, hlt, _⟩ := h.2.at_ (by omega)
  exact ⟨b, off, e, hlt⟩
theorem Bytes.el {w : World} {b off n c : Nat} {xs : List UInt8} (h : Bytes w (some ⟨b, off, none⟩) n c xs) (k : Nat) (hk : k < n) :
    ∃ s : UInt8, w.cell? ⟨b, off + k, none⟩ = some (.int .u8 s.toNat) := by
  obtain ⟨b', off', e, _, hc⟩ := h.2.at_ (by omega)
  injection e with e; injection e with e1 e2
  subst e1; subst e2
  have hl : k < xs.length := by rw [← h.1]; exact hk
  exact ⟨xs[k], hc k _ (by simp [hl])⟩

theorem of_lit_wf_u8 {s : Int} (h : (Lit.int .u8 s).wf = true) : 0 ≤ s ∧ s < 256 := by
  have a1 : IntKind.u8.min = 0 := rfl
  have a2 : IntKind.u8.max = 255 := rfl
  simp [Lit.wf, a1, a2] at h
  omega
theorem open_bytes_ {H : Type} {enc : TypeId × Value → H} {P : Program} {w : World} {base : Nat} {spare : Nat → Bool} {held : Bool}
    {t e : TypeId} {v : Value} {r : Reach} {b0 : Nat} {d : DataW H} {p : List MemPlace} (ht : P.underlying t = some (.slice e)) (he : P.underlying e = some (.int .u8)) (hC : P.cellsOf e = 1)
    (hv : Value.okWide P w r b0 t v) (h : DataW.Trod enc P w base spare held t v d p) :
    ∃ (A : Option Addr) (n c : Nat) (xs : List UInt8), v = .slice A n c ∧ Bytes w A n c xs := by
  obtain ⟨A, n, c, el, fuel, rfl, hr, hl, he2⟩ := open_row ht hC (by omega) hv h
  have hex : ∀ i, ∃ s : UInt8, i < n → el i = [.int .u8 s.toNat] := fun i => by
    by_cases hlt : i < n
    · obtain ⟨y, hy⟩ := he2 i hlt
      obtain ⟨s, hs, _, hw⟩ := DataW.trod_int he hy
      have hw2 := of_lit_wf_u8 hw
      refine ⟨UInt8.ofNat s.toNat, fun _ => ?_⟩
      rw [hs, UInt8.toNat_ofNat']
      have : ((s.toNat % 2 ^ 8 : Nat) : Int) = s := by omega
      rw [this]
    · exact ⟨0, fun h => absurd h hlt⟩
  obtain ⟨X, hX⟩ := Classical.axiomOfChoice hex
  refine ⟨A, n, c, (List.range n).map X, rfl, by simp, ?_⟩
  have : ((List.range n).map X).map (fun b : UInt8 => Value.int .u8 b.toNat) = (List.range n).flatMap el := by
    rw [congr_flat (g := fun i => [Value.int .u8 (X i).toNat]) (fun i hi => hX i (by simpa using hi)), List.map_map, List.map_eq_flatMap]
    rfl
  rw [this]
  exact hr
/-- a source: its three cells, of a slice of bytes that lies ahead of it -/
structure SrcAt (w : World) (p : Nat) (A : Option Addr) (n c : Nat) (bs : List UInt8) (at_ seed : Int) : Prop where
  lt : p < w.heap.size
  c0 : w.cell? ⟨p, 0, none⟩ = some (.slice A n c)
  c1 : w.cell? ⟨p, 1, none⟩ = some (.int .i64 at_)
  c2 : w.cell? ⟨p, 2, none⟩ = some (.int .i64 seed)
  f0 : ∀ j, w.frozen? ⟨p, j, none⟩ = false
  s0 : 0 ≤ seed
  s1 : seed < 2147483647
  a0 : 0 ≤ at_
  a1 : at_ ≤ n
  by_ : Bytes w A n c bs
  bl : 0 < n → ∀ b off, A = some ⟨b, off, none⟩ → b < p
def Src (w : World) (p : Nat) : Prop := ∃ A n c bs at_ seed, SrcAt w p A n c bs at_ seed
theorem Reads.same {w w' : World} {size : Nat} {A : Option Addr} {n c : Nat} {xs : List Value} (h : Reads w size A n c xs) (hs : w.heap.size ≤ w'.heap.size) (hb : 0 < n → ∀ b off, A = some ⟨b, off, none⟩ → w'.heap[b]? = w.heap[b]?) : Reads w' size A n c xs :=
  ⟨h.le, h.cap, h.len, fun hn => by
    obtain ⟨b, off, e, hlt, hc⟩ := h.at_ hn
    refine ⟨b, off, e, Nat.lt_of_lt_of_le hlt hs, fun j u hu => ?_⟩
    rw [World.cell?_of_block (w := w) (a := ⟨b, off + j, none⟩) (hb hn b off e)]
    exact hc j u hu⟩
theorem Bytes.block {w : World} {A : Option Addr} {n c : Nat} {xs : List UInt8} (h : Bytes w A n c xs) {w' : World} (hs : w.heap.size ≤ w'.heap.size) (hb : 0 < n → ∀ b off, A = some ⟨b, off, none⟩ → w'.heap[b]? = w.heap[b]?) : Bytes w' A n c xs := ⟨h.1, h.2.same hs hb⟩
theorem SrcAt.below {w w' : World} {p : Nat} {A : Option Addr} {n c : Nat} {bs : List UInt8} {a s : Int} (h : SrcAt w p A n c bs a s) (hb : Below w.heap.size w w') : SrcAt w' p A n c bs a s :=
  ⟨Nat.lt_of_lt_of_le h.lt hb.size, cell_keep hb h.c0, cell_keep hb h.c1, cell_keep hb h.c2, fun j => (hb.frozen (p := ⟨p, j, none⟩) h.lt).trans (h.f0 j), h.s0, h.s1, h.a0, h.a1, h.by_.below hb, h.bl⟩
theorem Src.below {w w' : World} {p : Nat} (h : Src w p) (hb : Below w.heap.size w w') : Src w' p := by
  obtain ⟨A, n, c, bs, a, s, h⟩ := h
  exact ⟨A, n, c, bs, a, s, h.below hb⟩
theorem SrcAt.seed {w : World} {p : Nat} {A : Option Addr} {n c : Nat} {bs : List UInt8} {a s : Int} (h : SrcAt w p A n c bs a s) (v : Int) (h0 : 0 ≤ v) (h1 : v < 2147483647) : SrcAt (w.setCell ⟨p, 2, none⟩ (.int .i64 v)) p A n c bs a v := by
  have hg := grown_set w p 2 (.int .i64 v)
  have hne : 0 < n → ∀ b off, A = some ⟨b, off, none⟩ → (w.setCell ⟨p, 2, none⟩ (.int .i64 v)).heap[b]? = w.heap[b]? := fun hn b off e => Below.heap_setCell _ _ _ b (by have := h.bl hn b off e; simp only; omega)
  refine ⟨Nat.lt_of_lt_of_le h.lt hg.size, ?_, ?_, World.cell?_setCell_same (w := w) (a := ⟨p, 2, none⟩) (v := .int .i64 v) h.c2, fun j => by rw [World.frozen?_setCell]; exact h.f0 j, h0, h1, h.a0, h.a1, h.by_.block hg.size hne, h.bl⟩
  · rw [World.cell?_setCell_other (w := w) (a := ⟨p, 2, none⟩) (b := ⟨p, 0, none⟩) (v := .int .i64 v) (by simp)]; exact h.c0
  · rw [World.cell?_setCell_other (w := w) (a := ⟨p, 2, none⟩) (b := ⟨p, 1, none⟩) (v := .int .i64 v) (by simp)]; exact h.c1
theorem SrcAt.step {w : World} {p : Nat} {A : Option Addr} {n c : Nat} {bs : List UInt8} {a s : Int} (h : SrcAt w p A n c bs a s) (v : Int) (h0 : 0 ≤ v) (h1 : v ≤ n) : SrcAt (w.setCell ⟨p, 1, none⟩ (.int .i64 v)) p A n c bs v s := by
  have hg := grown_set w p 1 (.int .i64 v)
  have hne : 0 < n → ∀ b off, A = some ⟨b, off, none⟩ → (w.setCell ⟨p, 1, none⟩ (.int .i64 v)).heap[b]? = w.heap[b]? := fun hn b off e => Below.heap_setCell _ _ _ b (by have := h.bl hn b off e; simp only; omega)
  refine ⟨Nat.lt_of_lt_of_le h.lt hg.size, ?_, World.cell?_setCell_same (w := w) (a := ⟨p, 1, none⟩) (v := .int .i64 v) h.c1, ?_, fun j => by rw [World.frozen?_setCell]; exact h.f0 j, h.s0, h.s1, h0, h1, h.by_.block hg.size hne, h.bl⟩
  · rw [World.cell?_setCell_other (w := w) (a := ⟨p, 1, none⟩) (b := ⟨p, 0, none⟩) (v := .int .i64 v) (by simp)]; exact h.c0
  · rw [World.cell?_setCell_other (w := w) (a := ⟨p, 1, none⟩) (b := ⟨p, 2, none⟩) (v := .int .i64 v) (by simp)]; exact h.c2

set_option maxRecDepth 100000 in
set_option maxHeartbeats 2000000 in
theorem l01From_any (A : Option Addr) (n c : Nat) (bs : List UInt8) (w : World) (hx : Bytes w A n c bs) :
    Calls Tryd.prog 49 #[.slice A n c] w fun e w' => e = .returned (.pointer (some ⟨w.heap.size, 0, none⟩)) ∧ Src w' w.heap.size ∧ Below w.heap.size w w' := by
  have ha : 0 < n → ∀ b off, A = some ⟨b, off, none⟩ → b < w.heap.size := fun h b off e => by
    obtain ⟨b', off', e', hl⟩ := hx.at_ 0 h
    rw [e] at e'
    injection e' with e'
    injection e' with e1 _
    omega
  have hcm := hx.2.cap
  have hnc := hx.2.le
  unfold maxLen at hcm
  go_enter Tryd.func49, Tryd.ntmps49
  go_wp2
  have S0 : SrcAt (w.alloc (.cells #[.slice A n c, .int .i64 0, .int .i64 51031] 77)) w.heap.size A n c bs 0 51031 := by
    have B := (Below.refl w.heap.size w).alloc (Nat.le_refl _) (.cells #[.slice A n c, .int .i64 0, .int .i64 51031] 77)
    exact ⟨by simp, by go_simp, by go_simp, by go_simp, fun j => by go_simp, by omega, by omega, by omega, by omega, hx.below B, ha⟩
  have B0 := (Below.refl w.heap.size w).alloc (Nat.le_refl _) (.cells #[.slice A n c, .int .i64 0, .int .i64 51031] 77)
  go_loopw [4] (fun i wr => ∃ (k : Nat) (s : Int), k ≤ n ∧ i = .int .i64 k ∧ Hid (SrcAt wr w.heap.size A n c bs 0 s) ∧ Below w.heap.size w wr) (fun i _ => n - (intOf i).toNat)
  case atStart => exact ⟨0, 51031, Nat.zero_le _, rfl, S0, B0⟩
  case round =>
    clear S0 B0
    obtain ⟨k, s, hk, rfl, hs, hb⟩ := hrel
    by_cases hlt : k < n
    · by_cases h64 : k < 64
      · obtain ⟨b, off, rfl, hbl⟩ := hx.at_ k hlt
        obtain ⟨u, hu⟩ := hs.out.by_.el k hlt
        have hu2 : u.toNat < 256 := u.toNat_lt
        have c2 := hs.out.c2
        have f2 := hs.out.f0 2
        have s0 := hs.out.s0
        have s1 := hs.out.s1
        have hpl := hs.out.lt
        have hbp := hs.out.bl (by omega) b off rfl
        have hbw : b < wr.heap.size := by omega
        have e1 : IntKind.i64.wrap (s * 73) = s * 73 := IntWalk.i64_in _ (by omega)
        have e2 : IntKind.i64.wrap (s * 73 + u.toNat) = s * 73 + u.toNat := IntWalk.i64_in _ (by omega)
        have e3 : (s * 73 + (u.toNat : Int)).tmod 2147483647 = (s * 73 + u.toNat) % 2147483647 := Int.tmod_eq_emod_of_nonneg (by omega)
        have v0 : 0 ≤ (s * 73 + (u.toNat : Int)) % 2147483647 := by omega
        have v1 : (s * 73 + (u.toNat : Int)) % 2147483647 < 2147483647 := by omega
        have hj0 : (0 : Int) ≤ (k : Int) := Int.natCast_nonneg _
        have hj1 : (k : Int) < (n : Int) := by omega
        go_wp2
        refine wp_region_tail 0 15 (by kernel_rfl) (by kernel_rfl) (fun _ _ _ _ h => h) ?_
        simp only [List.take_succ_cons, List.take_zero, List.drop_succ_cons, List.drop_zero]
        repeat (go_big_quiet_step (fail))
        refine wpQuiet_nil ?_
        intro w2 hw2; have h2 := later_below hw2; clear hw2
        have hc_w2 := bcell h2; have hf_w2 := bfree h2
        have hz_w2_0 : w.heap.size < w2.heap.size := by have hz_ := h2.size; (try simp at hz_); omega
        have HS := Lib.hid ((hs.out.below h2).seed ((s * 73 + (u.toNat : Int)) % 2147483647) v0 v1)
        have HB := Lib.hid ((hb.trans (h2.mono hb.size)).setCell (p := ⟨w.heap.size, 2, none⟩) (Nat.le_refl _) (.int .i64 ((s * 73 + (u.toNat : Int)) % 2147483647)))
        clear hs
        go_wp2
        go_roundw
        case rel => exact ⟨k + 1, _, by omega, by go_num, HS, HB.out⟩
        case measure => simp [intOf]; omega
      · go_wp2
        go_ret
        exact ⟨rfl, ⟨_, _, _, _, _, _, hs.out⟩, hb⟩
    · go_wp2
      go_ret
      exact ⟨rfl, ⟨_, _, _, _, _, _, hs.out⟩, hb⟩

/-- what a draw returns: a number below n (0 if n is 1 or less); the source is a source still, and nothing else has changed -/
def NextPost (p : Nat) (n : Int) (w : World) (e : Ending) (w' : World) : Prop := ∃ r : Int, e = .returned (.int .i64 r) ∧ 0 ≤ r ∧ (r < n ∨ r = 0) ∧ Src w' p ∧ w.grownBy w' (some p)
set_option maxRecDepth 100000 in
set_option maxHeartbeats 4000000 in
theorem l01Next_any (p : Nat) (n : Int) (w : World) (h : Src w p) (hn : n ≤ 4611686018427387904) :
    Calls Tryd.prog 69 #[.pointer (some ⟨p, 0, none⟩), .int .i64 n] w (NextPost p n w) := by
  by_cases hn1 : n ≤ 1
  · go_enter Tryd.func69, Tryd.ntmps69
    go_wp2
    go_ret
    exact ⟨0, rfl, by omega, .inr rfl, h, grown_refl _ _⟩
  · obtain ⟨A, N, c, bs, a, s, S⟩ := h
    have c0 := S.c0
    have c1 := S.c1
    have c2 := S.c2
    have f1 := S.f0 1
    have f2 := S.f0 2
    have s0 := S.s0
    have s1 := S.s1
    have hpl := S.lt
    have a0 := S.a0
    have a1 := S.a1
    have hNm := S.by_.2.cap
    have hNc := S.by_.2.le
    unfold maxLen at hNm
    have v0 : 0 ≤ (s * 48271 + 29) % 2147483647 := by omega
    have v1 : (s * 48271 + 29) % 2147483647 < 2147483647 := by omega
    have HS := Lib.hid (S.seed ((s * 48271 + 29) % 2147483647) v0 v1)
    have HG := Lib.hid (grown_set w p 2 (.int .i64 ((s * 48271 + 29) % 2147483647)))
    go_enter Tryd.func69, Tryd.ntmps69
    go_upto_region 5 with fail
    generalize (s * 48271 + 29) % 2147483647 = v at *
    have S1 := HS.out
    have G1 := HG.out
    clear c0 c1 c2 f1 f2 S HS HG s0 s1 hpl
    generalize w.setCell ⟨p, 2, none⟩ (.int .i64 v) = W at *
    have d0 := S1.c0
    have d1 := S1.c1
    have f1 := S1.f0 1
    have hpl := S1.lt
    by_cases ha : a < N
    · obtain ⟨k, rfl⟩ : ∃ k : Nat, a = k := ⟨a.toNat, by omega⟩
      have hk : k < N := by omega
      obtain ⟨b, off, rfl, hbl⟩ := S1.by_.at_ k hk
      obtain ⟨u, hu⟩ := S1.by_.el k hk
      have hu2 : u.toNat < 256 := u.toNat_lt
      have e1 : IntKind.i64.wrap (v / 31 + (u.toNat : Int)) = v / 31 + u.toNat := IntWalk.i64_in _ (by omega)
      refine wp_region_later (by kernel_rfl) (by kernel_rfl) ?_
      repeat (go_big_quiet_step (fail))
      refine wpQuiet_nil ?_
      intro w2 hw2; have h2 := later_below hw2; clear hw2
      have hc_w2 := bcell h2; have hf_w2 := bfree h2
      have hz_w2_0 : p < w2.heap.size := by have hz_ := h2.size; (try simp at hz_); omega
      have hz_w2_1 : b < w2.heap.size := by have hz_ := h2.size; (try simp at hz_); omega
      go_wp2_with fail
      refine wp_region_later (by kernel_rfl) (by kernel_rfl) ?_
      repeat (go_big_quiet_step (fail))
      refine wpQuiet_nil ?_
      intro w3 hw2; have h3 := later_below hw2; clear hw2
      have hc_w3 := bcell h3; have hf_w3 := bfree h3
      have hz_w3_0 : p < w3.heap.size := by have hz_ := h3.size; (try simp at hz_); omega
      have hz_w3_1 : b < w3.heap.size := by have hz_ := h3.size; (try simp at hz_); omega
      have S3 := (S1.below h2).below h3
      have HS4 := Lib.hid (S3.step ((k : Int) + 1) (by omega) (by omega))
      have HG4 := Lib.hid (grown_trans (grown_trans (grown_trans G1 (grown_below h2)) (grown_below h3)) (grown_set w3 p 1 (.int .i64 ((k : Int) + 1))))
      clear S1 S3 G1
      by_cases h256 : n ≤ 256
      · by_cases hev : ((k : Int) + 1) % 2 = 0
        · go_upto_region 9 with fail
          generalize hW4 : w3.setCell ⟨p, 1, none⟩ (.int .i64 ((k : Int) + 1)) = W4 at *
          clear hW4
          have S4 := HS4.out
          have G4 := HG4.out
          have k0 := S4.c0
          have k1 := S4.c1
          have hp4 := S4.lt
          obtain ⟨u2, hu3⟩ := S4.by_.el k hk
          have hb4 : b < W4.heap.size := Nat.lt_trans (S4.bl (by omega) b off rfl) hp4
          have hu4 : u2.toNat < 256 := u2.toNat_lt
          have e2 : IntKind.i64.wrap ((k : Int) + 1 - 1) = k := by rw [IntWalk.i64_in _ (by omega)]; omega
          have e3 : (k : Int) + 1 - 1 = k := by omega
          clear HS4 HG4
          refine wp_region_later (by kernel_rfl) (by kernel_rfl) ?_
          repeat (go_big_quiet_step (fail))
          refine wpQuiet_nil ?_
          intro w5 hw2; have h5 := later_below hw2; clear hw2
          have hc_w5 := bcell h5; have hf_w5 := bfree h5
          have hz_w5_0 : p < w5.heap.size := by have hz_ := h5.size; (try simp at hz_); omega
          have hz_w5_1 : b < w5.heap.size := by have hz_ := h5.size; (try simp at hz_); omega
          have S5 := S4.below h5
          have G5 := grown_trans G4 (grown_below h5)
          go_wp2
          go_ret
          exact ⟨_, rfl, Int.emod_nonneg _ (by omega), .inl (Int.emod_lt_of_pos _ (by omega)), ⟨_, _, _, _, _, _, S5⟩, G5⟩
        · have hod : ((k : Int) + 1) % 2 = 1 := by omega
          go_wp2
          go_ret
          exact ⟨_, rfl, Int.emod_nonneg _ (by omega), .inl (Int.emod_lt_of_pos _ (by omega)), ⟨_, _, _, _, _, _, HS4.out⟩, HG4.out⟩
      · go_wp2
        go_ret
        exact ⟨_, rfl, Int.emod_nonneg _ (by omega), .inl (Int.emod_lt_of_pos _ (by omega)), ⟨_, _, _, _, _, _, HS4.out⟩, HG4.out⟩
    · obtain rfl : a = N := by omega
      refine wp_region_later (by kernel_rfl) (by kernel_rfl) ?_
      repeat (go_big_quiet_step (fail))
      refine wpQuiet_nil ?_
      intro w2 hw2; have h2 := later_below hw2; clear hw2
      have hc_w2 := bcell h2; have hf_w2 := bfree h2
      have hz_w2_0 : p < w2.heap.size := by have hz_ := h2.size; (try simp at hz_); omega
      have S2 := S1.below h2
      have G2 := grown_trans G1 (grown_below h2)
      go_wp2
      go_ret
      exact ⟨_, rfl, Int.emod_nonneg _ (by omega), .inl (Int.emod_lt_of_pos _ (by omega)), ⟨_, _, _, _, _, _, S2⟩, G2⟩
end Go.Proofs.YtjgcbnngjfchhaaDoor
namespace Go.Proofs.YtjgcbnngjfchhaaDoor
open Go.ChangeShapes Go.WideShapes Go.ChangeAt Go.RowKit
theorem grown_cell {w w' : World} {row : Option Nat} (h : w.grownBy w' row) {a : Addr} {v : Value} (hc : w.cell? a = some v) (hne : row ≠ some a.block) : w'.cell? a = some v :=
  (h.cell_far a (World.block_lt_of_cell? w _ hc) (fun e => hne e.symm)).trans hc
theorem own_far {w w' : World} {row : Option Nat} {base : Nat} {e : TypeId} {size : Nat} {v : Value} {n : Nat} {xs : List Value} (h : w.ownsRow base e size v n xs) (hg : w.grownBy w' row) (hne : ∀ k, v.ownBlock = some k → row ≠ some k) : w'.ownsRow base e size v n xs :=
  own_block h fun k hk => hg.block k (h.lt k hk).2 (fun e => hne k hk e.symm)
theorem below_own {B : Nat} {a w w' : World} {row : Option Nat} (h : Below B a w) (hg : w.grownBy w' row) (hB : B ≤ a.heap.size) (hgB : ∀ k, row = some k → B ≤ k) : Below B a w' :=
  h.grown hg (Nat.le_trans hB h.size) hgB
end Go.Proofs.YtjgcbnngjfchhaaDoor
namespace Go.Proofs.YtjgcbnngjfchhaaDoor
open Go.ChangeShapes Go.WideShapes Go.ChangeAt Go.RowKit

/-- a list of texts in memory, each of at most B bytes -/
def Parts (w : World) (g n B : Nat) : Prop := ∀ k, k < n → ∃ t : ByteArray, w.cell? ⟨g, k, none⟩ = some (.string t) ∧ t.size ≤ B
theorem Parts.grown {w w' : World} {p g n B : Nat} (h : Parts w g n B) (hg : w.grownBy w' (some p)) (hne : p ≠ g) : Parts w' g n B := fun k hk => by
  obtain ⟨t, ht, hb⟩ := h k hk
  exact ⟨t, grown_cell hg ht (by simpa using hne), hb⟩
theorem Parts.below {w w' : World} {g n B : Nat} (h : Parts w g n B) (hb : Below w.heap.size w w') : Parts w' g n B := fun k hk => by
  obtain ⟨t, ht, hB⟩ := h k hk
  exact ⟨t, cell_keep hb ht, hB⟩
theorem parts_alloc (w : World) (L : List ByteArray) (t : TypeId) (B : Nat) (hL : ∀ x ∈ L, x.size ≤ B) : Parts (w.alloc (.cells (L.map Value.string).toArray t)) w.heap.size L.length B := fun k hk =>
  ⟨L[k], by go_simp, hL _ (List.getElem_mem hk)⟩
/-- what a draw of a text returns -/
def TextPost (p B : Nat) (w : World) (e : Ending) (w' : World) : Prop := ∃ t : ByteArray, e = .returned (.string t) ∧ t.size ≤ B ∧ Src w' p ∧ w.grownBy w' (some p)
theorem box1 (w : World) (x : Obj) : Below w.heap.size w (w.alloc x) := (Below.refl _ _).alloc (Nat.le_refl _) _
theorem Src.lt {w : World} {p : Nat} (h : Src w p) : p < w.heap.size := by
  obtain ⟨_, _, _, _, _, _, h⟩ := h
  exact h.lt
end Go.Proofs.YtjgcbnngjfchhaaDoor
namespace Go.Proofs.YtjgcbnngjfchhaaDoor
open Go.ChangeShapes Go.WideShapes Go.ChangeAt Go.RowKit

theorem ints_alloc (w : World) (L : List Int) (t : TypeId) (hl : L.length ≤ maxLen) :
    Ints (w.alloc (.cells (L.map (Value.int .i64)).toArray t)) (some ⟨w.heap.size, 0, none⟩) L.length L.length L :=
  ⟨rfl, ⟨Nat.le_refl _, hl, by simp, fun _ => ⟨w.heap.size, 0, rfl, by simp, fun j u hu => by
    rw [Nat.zero_add]
    go_simp⟩⟩⟩
/-- what a draw of a number returns -/
def IntPost (p : Nat) (w : World) (e : Ending) (w' : World) : Prop := ∃ r : Int, e = .returned (.int .i64 r) ∧ Src w' p ∧ w.grownBy w' (some p)
/-- what a pick returns: one of the numbers -/
def PickPost (p : Nat) (xs : List Int) (w : World) (e : Ending) (w' : World) : Prop := ∃ r : Int, e = .returned (.int .i64 r) ∧ r ∈ xs ∧ Src w' p ∧ w.grownBy w' (some p)
set_option maxRecDepth 100000 in
set_option maxHeartbeats 1000000 in
theorem l01Pick_any (p g n c : Nat) (xs : List Int) (w : World) (h : Src w p) (hx : Ints w (some ⟨g, 0, none⟩) n c xs) (hn : 0 < n) (hnn : n ≤ 1000) (hg : p ≠ g) :
    Calls Tryd.prog 70 #[.pointer (some ⟨p, 0, none⟩), .slice (some ⟨g, 0, none⟩) n c] w (PickPost p xs w) := by
  have hcm := hx.2.cap
  have hnc := hx.2.le
  unfold maxLen at hcm
  go_enter Tryd.func70, Tryd.ntmps70
  go_wp2_with fail
  refine (l01Next_any p n _ h (by omega)).mono ?_
  rintro e_ w1 ⟨r, rfl, r0, r1, S1, g1⟩
  obtain ⟨j, rfl⟩ : ∃ j : Nat, r = j := ⟨r.toNat, by omega⟩
  have hj : j < n := by omega
  obtain ⟨b, off, e, hbl⟩ := hx.at_ j hj
  injection e with e
  injection e with e1 e2
  subst e1; subst e2
  obtain ⟨s, hs, c0⟩ := hx.el (Below.refl _ _) hbl j hj
  rw [Nat.zero_add] at c0
  have c1 := grown_cell g1 c0 (by simpa using hg)
  have hj2 : (j : Int) < n := by omega
  go_wp2
  go_ret
  exact ⟨s, rfl, List.mem_of_getElem? hs.out, S1, g1⟩
theorem lit8 (j : Nat) (h : j < 8) : ∃ x : ByteArray, ([Value.string ⟨#[48]⟩, Value.string ⟨#[35]⟩, Value.string ⟨#[46]⟩, Value.string ⟨#[47]⟩, Value.string ⟨#[32]⟩, Value.string ⟨#[97]⟩, Value.string ⟨#[45]⟩, Value.string ⟨#[10]⟩] : List Value)[j]'h = .string x ∧ x.size ≤ 1 := by
  match j, h with
  | 0, _ => exact ⟨_, rfl, by decide⟩
  | 1, _ => exact ⟨_, rfl, by decide⟩
  | 2, _ => exact ⟨_, rfl, by decide⟩
  | 3, _ => exact ⟨_, rfl, by decide⟩
  | 4, _ => exact ⟨_, rfl, by decide⟩
  | 5, _ => exact ⟨_, rfl, by decide⟩
  | 6, _ => exact ⟨_, rfl, by decide⟩
  | 7, _ => exact ⟨_, rfl, by decide⟩
end Go.Proofs.YtjgcbnngjfchhaaDoor
namespace Go.Proofs.YtjgcbnngjfchhaaDoor
open Go.ChangeShapes Go.WideShapes Go.ChangeAt Go.RowKit

theorem Src.grownP {w w' : World} {p : Nat} {row : Option Nat} (h : Src w p) (hg : w.grownBy w' row) (hne : ∀ k, row = some k → p < k) : Src w' p := by
  obtain ⟨A, n, c, bs, a, s, S⟩ := h
  have hp : row ≠ some p := fun e => by have := hne p e; omega
  refine ⟨A, n, c, bs, a, s, Nat.lt_of_lt_of_le S.lt hg.size, grown_cell hg S.c0 hp, grown_cell hg S.c1 hp, grown_cell hg S.c2 hp, fun j => ?_, S.s0, S.s1, S.a0, S.a1, S.by_.block hg.size fun hn b off e => ?_, S.bl⟩
  · exact (World.frozen?_of_block (hg.block p S.lt (fun e => hp e.symm))).trans (S.f0 j)
  · have := S.bl hn b off e
    exact hg.block b (by have := S.lt; omega) (fun e2 => by have := hne b e2.symm; omega)
theorem own_srcP {w w' : World} {p base : Nat} {e : TypeId} {size : Nat} {v : Value} {n : Nat} {xs : List Value} (h : w.ownsRow base e size v n xs) (hg : w.grownBy w' (some p)) (hb : p < base) : w'.ownsRow base e size v n xs :=
  own_far h hg fun k hk e => by have := (h.lt k hk).1; injection e with e; omega
theorem grown_own {w W W' : World} {p : Nat} {row : Option Nat} (h : w.grownBy W (some p)) (hg : W.grownBy W' row) (hne : ∀ k, row = some k → w.heap.size ≤ k) : w.grownBy W' (some p) :=
  ⟨hg.os.trans h.os, hg.tape.trans h.tape, hg.output.trans h.output, Nat.le_trans h.size hg.size, fun k hk hkp => (hg.block k (Nat.lt_of_lt_of_le hk h.size) (fun e => by have := hne k e.symm; omega)).trans (h.block k hk hkp)⟩
theorem below_srcP {a w w' : World} {p : Nat} (h : Below p a w) (hg : w.grownBy w' (some p)) (hp : a.heap.size = p) : Below p a w' :=
  below_own h hg (Nat.le_of_eq hp.symm) (fun k hk => by injection hk with hk; omega)
/-- two cells of a block that may be written -/
structure Box2 (w : World) (g : Nat) (u v : Value) : Prop where
  c0 : w.cell? ⟨g, 0, none⟩ = some u
  c1 : w.cell? ⟨g, 1, none⟩ = some v
  f0 : w.frozen? ⟨g, 0, none⟩ = false
  f1 : w.frozen? ⟨g, 1, none⟩ = false
  lt : g < w.heap.size
theorem box2_new (w : World) (u v : Value) (t : TypeId) : Box2 (w.alloc (.cells #[u, v] t)) w.heap.size u v := ⟨by simp, by simp, by simp, by simp, by simp⟩
theorem Box2.below {w w' : World} {g : Nat} {u v : Value} (h : Box2 w g u v) (hb : Below w.heap.size w w') : Box2 w' g u v :=
  ⟨cell_keep hb h.c0, cell_keep hb h.c1, (bfree hb g 0 h.lt).trans h.f0, (bfree hb g 1 h.lt).trans h.f1, Nat.lt_of_lt_of_le h.lt hb.size⟩
theorem Box2.grown {w w' : World} {g p : Nat} {u v : Value} (h : Box2 w g u v) (hg : w.grownBy w' (some p)) (hne : p ≠ g) : Box2 w' g u v :=
  have hb := hg.block g h.lt (fun e => hne (by injection e with e; exact e.symm))
  ⟨grown_cell hg h.c0 (by simpa using hne), grown_cell hg h.c1 (by simpa using hne), (World.frozen?_of_block hb).trans h.f0, (World.frozen?_of_block hb).trans h.f1, Nat.lt_of_lt_of_le h.lt hg.size⟩
end Go.Proofs.YtjgcbnngjfchhaaDoor
namespace Go.Proofs.YtjgcbnngjfchhaaDoor
open Go

def isDig (c : UInt8) : Bool := decide (48 ≤ c.toNat ∧ c.toNat ≤ 57)
def dval (l : List UInt8) : Nat := l.foldl (fun a c => a * 10 + (c.toNat - 48)) 0
theorem dval_snoc (l : List UInt8) (c : UInt8) : dval (l ++ [c]) = dval l * 10 + (c.toNat - 48) := by unfold dval; rw [List.foldl_append]; rfl
theorem dig_val {d : Nat} (h : d < 10) : (UInt8.ofNat (48 + d)).toNat = 48 + d := by rw [UInt8.toNat_ofNat']; omega
theorem dec_small {u : Nat} (h : u < 10) : Lib.decDigits u = [UInt8.ofNat (48 + u)] := by rw [Lib.decDigits, dif_pos h]
theorem dec_big {u : Nat} (h : ¬ u < 10) : Lib.decDigits u = Lib.decDigits (u / 10) ++ [UInt8.ofNat (48 + u % 10)] := by rw [Lib.decDigits, dif_neg h]
theorem dval_dec (u : Nat) : dval (Lib.decDigits u) = u := by
  induction u using Nat.strongRecOn with
  | _ u ih =>
    by_cases h : u < 10
    · rw [dec_small h]
      show 0 * 10 + ((UInt8.ofNat (48 + u)).toNat - 48) = u
      rw [dig_val h]; omega
    · rw [dec_big h, dval_snoc, ih (u / 10) (by omega), dig_val (by omega)]
      omega
theorem dec_all (u : Nat) : (Lib.decDigits u).all isDig = true := by
  induction u using Nat.strongRecOn with
  | _ u ih =>
    by_cases h : u < 10
    · rw [dec_small h]
      simp only [List.all_cons, List.all_nil, Bool.and_true]
      unfold isDig
      rw [dig_val h]
      exact decide_eq_true (by omega)
    · rw [dec_big h, List.all_append, ih (u / 10) (by omega)]
      simp only [List.all_cons, List.all_nil, Bool.and_true, Bool.true_and]
      unfold isDig
      rw [dig_val (by omega)]
      exact decide_eq_true (by omega)
theorem dec_pos (u : Nat) : 1 ≤ (Lib.decDigits u).length := by
  by_cases h : u < 10
  · rw [dec_small h]; simp
  · rw [dec_big h]; simp
theorem dec_le : ∀ (k u : Nat), u < 10 ^ (k + 1) → (Lib.decDigits u).length ≤ k + 1
  | 0, u, h => by rw [dec_small (by simpa using h)]; simp
  | k + 1, u, h => by
    by_cases h10 : u < 10
    · rw [dec_small h10]; simp
    · rw [dec_big h10, List.length_append]
      have := dec_le k (u / 10) (by rw [Nat.pow_succ] at h; omega)
      simp; omega
theorem dval_lt (l : List UInt8) (h : l.all isDig = true) : dval l < 10 ^ l.length := by
  have H : ∀ (l : List UInt8) (a : Nat), l.all isDig = true → l.foldl (fun a c => a * 10 + (c.toNat - 48)) a < (a + 1) * 10 ^ l.length := by
    intro l
    induction l with
    | nil => intro a _; simp
    | cons c r ih =>
      intro a h
      rw [List.all_cons, Bool.and_eq_true] at h
      rw [List.foldl_cons, List.length_cons, Nat.pow_succ]
      have h1 := ih (a * 10 + (c.toNat - 48)) h.2
      have hc := of_decide_eq_true h.1
      have h2 : (a * 10 + (c.toNat - 48) + 1) * 10 ^ r.length ≤ (a + 1) * (10 ^ r.length * 10) := by
        rw [Nat.mul_comm (10 ^ r.length) 10, ← Nat.mul_assoc]
        exact Nat.mul_le_mul_right _ (by omega)
      omega
  have := H l 0 h
  simpa [dval] using this
theorem dec_ne (u : Nat) (c : UInt8) (hc : isDig c = false) (r : List UInt8) : Lib.decDigits u ≠ c :: r := by
  intro e
  have := dec_all u
  rw [e, List.all_cons, hc] at this
  cases this
theorem itoa_neg {n : Int} (h : n < 0) : Lib.itoa n = 45 :: Lib.decDigits n.natAbs := by unfold Lib.itoa; rw [if_pos h]
theorem itoa_pos {n : Int} (h : ¬ n < 0) : Lib.itoa n = Lib.decDigits n.toNat := by unfold Lib.itoa; rw [if_neg h]
theorem minus_dig : isDig 45 = false := rfl
theorem itoa_inj {a b : Int} (h : Lib.itoa a = Lib.itoa b) : a = b := by
  by_cases ha : a < 0 <;> by_cases hb : b < 0
  · rw [itoa_neg ha, itoa_neg hb, List.cons.injEq] at h
    have := congrArg dval h.2
    rw [dval_dec, dval_dec] at this
    omega
  · rw [itoa_neg ha, itoa_pos hb] at h
    exact absurd h.symm (dec_ne _ _ minus_dig _)
  · rw [itoa_pos ha, itoa_neg hb] at h
    exact absurd h (dec_ne _ _ minus_dig _)
  · rw [itoa_pos ha, itoa_pos hb] at h
    have := congrArg dval h
    rw [dval_dec, dval_dec] at this
    omega

/-! ## the reference's reading -/
def vLen (l : List UInt8) : Bool := decide (1 ≤ l.length ∧ l.length ≤ 13) && l.all isDig
def vNum (l : List UInt8) : Int := if vLen l = true then (dval l : Nat) else 0
def vOk (l : List UInt8) : Bool := vLen l && decide (Lib.decDigits (dval l) = l)
def sNum (l : List UInt8) : Int := match l with | c :: r => if c = 45 then -vNum r else vNum l | [] => vNum l
def sOk (l : List UInt8) : Bool := match l with | c :: r => if c = 45 then vOk r && decide (0 < vNum r) else vOk l | [] => vOk l
theorem vLen_dec {u : Nat} (h : u < 10000000000000) : vLen (Lib.decDigits u) = true := by
  unfold vLen
  rw [dec_all, Bool.and_true]
  exact decide_eq_true ⟨dec_pos u, dec_le 12 u h⟩
theorem vOk_dec {u : Nat} (h : u < 10000000000000) : vOk (Lib.decDigits u) = true ∧ vNum (Lib.decDigits u) = u := by
  unfold vOk vNum
  rw [vLen_dec h, dval_dec]
  simp
theorem vOk_is {l : List UInt8} (h : vOk l = true) : vNum l = dval l ∧ Lib.decDigits (dval l) = l ∧ dval l < 10000000000000 := by
  unfold vOk at h
  rw [Bool.and_eq_true] at h
  have h1 := h.1
  unfold vLen at h1
  rw [Bool.and_eq_true] at h1
  have h2 := of_decide_eq_true h1.1
  have h3 := dval_lt l h1.2
  have h4 : (10 : Nat) ^ l.length ≤ 10 ^ 13 := Nat.pow_le_pow_right (by omega) h2.2
  refine ⟨by unfold vNum; rw [if_pos h.1], of_decide_eq_true h.2, ?_⟩
  have : (10 : Nat) ^ 13 = 10000000000000 := by decide
  omega
theorem sOk_itoa {n : Int} (h : -10000000000000 < n) (h2 : n < 10000000000000) : sOk (Lib.itoa n) = true ∧ sNum (Lib.itoa n) = n := by
  by_cases hn : n < 0
  · rw [itoa_neg hn]
    have := vOk_dec (u := n.natAbs) (by omega)
    unfold sOk sNum
    simp only [if_true, this.1, this.2, Bool.true_and]
    refine ⟨decide_eq_true (by omega), by omega⟩
  · rw [itoa_pos hn]
    have := vOk_dec (u := n.toNat) (by omega)
    unfold sOk sNum
    rcases hq : Lib.decDigits n.toNat with _ | ⟨c, r⟩
    · have := dec_pos n.toNat; rw [hq] at this; simp at this
    · have hc : c ≠ 45 := by rintro rfl; exact dec_ne _ _ minus_dig _ hq
      rw [hq] at this
      simp only [if_neg hc, this.1, this.2]
      exact ⟨trivial, by omega⟩
theorem sOk_is {l : List UInt8} (h : sOk l = true) : Lib.itoa (sNum l) = l ∧ -10000000000000 < sNum l ∧ sNum l < 10000000000000 := by
  rcases l with _ | ⟨c, r⟩
  · unfold sOk at h; simp [vOk, vLen] at h
  · unfold sOk at h
    unfold sNum
    by_cases hc : c = 45
    · simp only [if_pos hc] at h ⊢
      rw [Bool.and_eq_true] at h
      obtain ⟨h1, h2, h3⟩ := vOk_is h.1
      have h4 := of_decide_eq_true h.2
      rw [h1] at h4 ⊢
      rw [itoa_neg (by omega), hc, show (-((dval r : Nat) : Int)).natAbs = dval r by omega, h2]
      exact ⟨rfl, by omega, by omega⟩
    · simp only [if_neg hc] at h ⊢
      obtain ⟨h1, h2, h3⟩ := vOk_is h
      rw [h1, itoa_pos (by omega), Int.toNat_natCast, h2]
      exact ⟨rfl, by omega, by omega⟩

/-! ## the library's reading -/
theorem parseU {M : Nat} (hM : M ≤ 18446744073709551615) : ∀ (l : List UInt8) (a : Nat), l.all isDig = true → l.foldl (fun a c => a * 10 + (c.toNat - 48)) a ≤ M → Lib.parseUintM M a l = .ok (l.foldl (fun a c => a * 10 + (c.toNat - 48)) a)
  | [], a, _, _ => rfl
  | c :: r, a, h, hm => by
    rw [List.all_cons, Bool.and_eq_true] at h
    have hc := of_decide_eq_true h.1
    rw [List.foldl_cons] at hm ⊢
    have hmono : ∀ (l : List UInt8) (a : Nat), a ≤ l.foldl (fun a c => a * 10 + (c.toNat - 48)) a := by
      intro l
      induction l with
      | nil => intro a; exact Nat.le_refl _
      | cons c r ih => intro a; rw [List.foldl_cons]; have := ih (a * 10 + (c.toNat - 48)); omega
    have := hmono r (a * 10 + (c.toNat - 48))
    unfold Lib.parseUintM
    rw [if_pos hc, if_neg (by omega), if_neg (by omega)]
    exact parseU hM r _ h.2 hm
theorem parse_itoa {n : Int} (h : -9223372036854775808 ≤ n) (h2 : n ≤ 9223372036854775807) : Lib.parseIntB 64 (Lib.itoa n) = .ok n := by
  have hp : (2 : Nat) ^ (64 - 1) = 9223372036854775808 := by decide
  have hq : (2 : Nat) ^ 64 - 1 = 18446744073709551615 := by decide
  by_cases hn : n < 0
  · have hu : Lib.parseUintB 64 (Lib.decDigits n.natAbs) = .ok n.natAbs := by
      unfold Lib.parseUintB
      have := dec_pos n.natAbs
      rw [if_neg (by intro e; rw [e] at this; simp at this), hq]
      have h1 := parseU (M := 18446744073709551615) (Nat.le_refl _) (Lib.decDigits n.natAbs) 0 (dec_all _) (by have := dval_dec n.natAbs; unfold dval at this; omega)
      have h3 := dval_dec n.natAbs
      unfold dval at h3
      rw [h1, h3]
    rw [itoa_neg hn]
    unfold Lib.parseIntB
    have e : (45 : UInt8).toNat = 45 := rfl
    simp only [e, or_true, if_true, hu, hp]
    have g1 : ¬ (9223372036854775808 < n.natAbs) := by omega
    simp [g1]
    omega
  · have hu : Lib.parseUintB 64 (Lib.decDigits n.toNat) = .ok n.toNat := by
      unfold Lib.parseUintB
      have := dec_pos n.toNat
      rw [if_neg (by intro e; rw [e] at this; simp at this), hq]
      have h1 := parseU (M := 18446744073709551615) (Nat.le_refl _) (Lib.decDigits n.toNat) 0 (dec_all _) (by have := dval_dec n.toNat; unfold dval at this; omega)
      have h3 := dval_dec n.toNat
      unfold dval at h3
      rw [h1, h3]
    rw [itoa_pos hn]
    rcases hd : Lib.decDigits n.toNat with _ | ⟨c, r⟩
    · have := dec_pos n.toNat; rw [hd] at this; simp at this
    · have hc : isDig c = true := by have := dec_all n.toNat; rw [hd, List.all_cons, Bool.and_eq_true] at this; exact this.1
      have hc2 := of_decide_eq_true hc
      rw [hd] at hu
      unfold Lib.parseIntB
      have c1 : ¬ c.toNat = 45 := by omega
      have c2 : ¬ c.toNat = 43 := by omega
      have g1 : ¬ (9223372036854775808 ≤ n.toNat) := by omega
      simp only [c1, c2, or_self, if_false, hu, hp]
      simp [g1]
      omega
theorem parse_bd {l : List UInt8} {v : Int} (h : Lib.parseIntB 64 l = .ok v) : -9223372036854775808 ≤ v ∧ v ≤ 9223372036854775807 := by
  have hp : (2 : Nat) ^ (64 - 1) = 9223372036854775808 := by decide
  unfold Lib.parseIntB at h
  split at h
  · cases h
  · simp only [hp] at h
    split at h
    · cases h
    · cases h
    · split at h
      · cases h
      · split at h
        · cases h
        · rename_i h1 h2
          injection h with h
          subst h
          split <;> rename_i h3 <;> simp [h3] at h1 h2 <;> omega
def rOk (l : List UInt8) : Bool := match Lib.parseIntB 64 l with | .ok v => decide (Lib.itoa v = l) | _ => false
def rNum (l : List UInt8) : Int := match Lib.parseIntB 64 l with | .ok v => v | .range => Lib.intSat 64 l | _ => 0
theorem rOk_itoa {n : Int} (h : -9223372036854775808 ≤ n) (h2 : n ≤ 9223372036854775807) : rOk (Lib.itoa n) = true ∧ rNum (Lib.itoa n) = n := by
  unfold rOk rNum
  rw [parse_itoa h h2]
  simp
theorem rOk_is {l : List UInt8} (h : rOk l = true) : Lib.itoa (rNum l) = l := by
  unfold rOk at h
  unfold rNum
  split at h
  · rename_i v hv
    rw [hv]
    exact of_decide_eq_true h
  · cases h
end Go.Proofs.YtjgcbnngjfchhaaDoor
namespace Go.Proofs.YtjgcbnngjfchhaaDoor
end Go.Proofs.YtjgcbnngjfchhaaDoor
namespace Go.Proofs.YtjgcbnngjfchhaaDoor
open Go.ChangeShapes Go.WideShapes Go.ChangeAt Go.RowKit

/-- the library's table of powers, as long as nothing below is changed -/
def PowTab (w : World) : Prop := Lib.TabIs Tryd.prog w "internal/strconv.uint64pow10" .u64 Lib.pow10Tab
theorem PowTab.below {w w' : World} (h : PowTab w) (hb : Below w.heap.size w w') : PowTab w' := ((Lib.tabBelow_of_tabIs h).on hb).here
def numT (n : Int) : ByteArray := ⟨(Lib.itoa n).toArray⟩
theorem conv_at (W : World) (g : Nat) (d : Int) (h0 : 0 ≤ d) (hd : d < 10) (hc : W.cell? ⟨g, 0, none⟩ = some (.int .u8 (48 + d))) :
    (convert 44 9 (.slice (some ⟨g, 0, none⟩) 1 1)).run Tryd.prog W = .ok (.string ⟨#[UInt8.ofNat (48 + d.toNat)]⟩) W := by
  have h := run_convert_bytes_back (P := Tryd.prog) W 44 9 5 ⟨g, 0, none⟩ 1 [UInt8.ofNat (48 + d.toNat)] Tryd.underlying44 Tryd.underlying5 Tryd.underlying9 ?_
  · simpa using h
  · intro j hj
    have : j = 0 := by simpa using hj
    subst this
    have e : ((UInt8.ofNat (48 + d.toNat)).toNat : Int) = 48 + d := by
      rw [UInt8.toNat_ofNat']; omega
    simp only [List.getElem_cons_zero, e]
    exact hc
theorem cat_dec (n : Nat) (h : ¬ n < 10) : (⟨(Lib.decDigits (n / 10)).toArray⟩ : ByteArray) ++ ⟨#[UInt8.ofNat (48 + n % 10)]⟩ = ⟨(Lib.decDigits n).toArray⟩ := by
  rw [dec_big h]
  apply ByteArray.ext
  simp [ByteArray.data_append]
end Go.Proofs.YtjgcbnngjfchhaaDoor
namespace Go.Proofs.YtjgcbnngjfchhaaDoor
open Go.ChangeShapes Go.WideShapes Go.ChangeAt Go.RowKit

def jn (c : UInt8) (xs : List ByteArray) : ByteArray := ⟨(Lib.join (bytesOf xs) [c]).toArray⟩
theorem jn_nil (c : UInt8) : jn c [] = ⟨#[]⟩ := rfl
theorem jn_one (c : UInt8) (x : ByteArray) : jn c [x] = x := by
  unfold jn bytesOf
  rw [List.map_cons, List.map_nil, Lib.join_one]
theorem join_snoc_ (c : UInt8) (xs : List (List UInt8)) (x : List UInt8) (h : xs ≠ []) : Lib.join (xs ++ [x]) [c] = Lib.join xs [c] ++ ([c] ++ x) := by
  cases xs with
  | nil => exact absurd rfl h
  | cons y r =>
    rw [List.cons_append, Lib.join_cons, Lib.join_cons]
    unfold Lib.joinTail
    simp
theorem jn_snoc (c : UInt8) (xs : List ByteArray) (x : ByteArray) (h : xs ≠ []) : jn c (xs ++ [x]) = jn c xs ++ ⟨#[c]⟩ ++ x := by
  unfold jn bytesOf
  rw [List.map_append, List.map_cons, List.map_nil, join_snoc_ _ _ _ (by simpa using h)]
  apply ByteArray.ext
  simp [ByteArray.data_append]
theorem jn_size (c : UInt8) (xs : List ByteArray) : (jn c xs).size ≤ total xs + xs.length := by
  cases xs with
  | nil => simp [jn_nil, ByteArray.size]
  | cons x r =>
    have h := Lib.join_length x.data.toList (bytesOf r) [c]
    have e : (jn c (x :: r)).size = (Lib.join (x.data.toList :: bytesOf r) [c]).length := by
      unfold jn bytesOf
      simp [ByteArray.size]
    have e2 : Lib.lens (bytesOf (x :: r)) = total (x :: r) := by
      unfold Lib.lens total bytesOf
      rw [List.map_map, show (List.length ∘ fun s : ByteArray => s.data.toList) = ByteArray.size from funext fun s => Array.length_toList]
    have e3 : (bytesOf r).length = r.length := by unfold bytesOf; rw [List.length_map]
    have e4 : x.data.toList :: bytesOf r = bytesOf (x :: r) := rfl
    rw [e, h, e3, e4, e2, List.length_cons, List.length_cons, List.length_nil]
    omega
theorem jn_step {c : UInt8} {xs : List ByteArray} {k : Nat} {x : ByteArray} (h : xs[k]? = some x) (hk : 0 < k) : jn c (xs.take (k + 1)) = jn c (xs.take k) ++ ⟨#[c]⟩ ++ x := by
  rw [List.take_add_one, h]
  refine jn_snoc _ _ _ ?_
  intro e
  have h1 := congrArg List.length e
  have h2 := (List.getElem?_eq_some_iff.1 h).1
  rw [List.length_take, List.length_nil] at h1
  omega
theorem jn_first {c : UInt8} {xs : List ByteArray} {x : ByteArray} (h : xs[0]? = some x) : jn c (xs.take 1) = x := by
  rw [List.take_add_one, h]
  exact jn_one c x
/-- numbers that are small enough -/
def numB (n : Int) : Bool := decide (-1000000000000000 ≤ n ∧ n ≤ 1000000000000000)
theorem numT_size {n : Int} (h : numB n = true) : (numT n).size ≤ 21 := by
  have hb := of_decide_eq_true h
  have hp : (10 : Nat) ^ 20 = 100000000000000000000 := by decide
  have e : (numT n).size = (Lib.itoa n).length := by unfold numT; simp [ByteArray.size]
  rw [e]
  by_cases hn : n < 0
  · rw [itoa_neg hn, List.length_cons]
    have := dec_le 19 n.natAbs (by omega)
    omega
  · rw [itoa_pos hn]
    have := dec_le 19 n.toNat (by omega)
    omega
theorem nums_total {ns : List Int} (h : ns.all numB = true) : total (ns.map numT) ≤ 21 * ns.length := by
  induction ns with
  | nil => simp [total]
  | cons n r ih =>
    rw [List.all_cons, Bool.and_eq_true] at h
    have h1 := ih h.2
    have h2 := numT_size h.1
    unfold total at h1 ⊢
    simp only [List.map_cons, List.sum_cons, List.length_cons] at h1 ⊢
    omega
theorem num_at {ns : List Int} (h : ns.all numB = true) {k : Nat} {n : Int} (hn : ns[k]? = some n) : -1000000000000000 ≤ n ∧ n ≤ 1000000000000000 := of_decide_eq_true (List.all_eq_true.1 h n (List.mem_of_getElem? hn))
end Go.Proofs.YtjgcbnngjfchhaaDoor
namespace Go.Proofs.YtjgcbnngjfchhaaDoor
open Go.ChangeShapes Go.WideShapes Go.ChangeAt Go.RowKit

/-- a text lies in a list -/
def hasT (xs : List ByteArray) (s : ByteArray) : Bool := xs.any fun x => decide (x = s)
theorem hasT_eq {xs : List ByteArray} {k : Nat} {s : ByteArray} (h : xs[k]? = some s) : hasT xs s = true := by
  unfold hasT
  rw [List.any_eq_true]
  exact ⟨s, List.mem_of_getElem? h, decide_eq_true rfl⟩
theorem hasT_succ {xs : List ByteArray} {k : Nat} {x s : ByteArray} (h : xs[k]? = some x) (hn : ¬ x = s) (hb : hasT (xs.take k) s = false) : hasT (xs.take (k + 1)) s = false := by
  unfold hasT at hb ⊢
  rw [List.take_add_one, h, List.any_append, hb]
  simp [hn]
/-- where a text lies first in a list -/
def fnd (xs : List ByteArray) (s : ByteArray) : Int := if hasT xs s = true then (xs.findIdx fun x => decide (x = s) : Nat) else -1
theorem fnd_none {xs : List ByteArray} {s : ByteArray} (h : hasT xs s = false) : fnd xs s = -1 := by unfold fnd; rw [h]; rfl
theorem hasT_take {xs : List ByteArray} {s : ByteArray} {k : Nat} (h : hasT (xs.take k) s = false) {j : Nat} {x : ByteArray} (hj : j < k) (hx : xs[j]? = some x) : ¬ x = s := by
  intro e
  have : hasT (xs.take k) s = true := hasT_eq (k := j) (by rw [List.getElem?_take_of_lt hj, hx, e])
  rw [h] at this
  exact absurd this (by simp)
theorem fnd_at {xs : List ByteArray} {s : ByteArray} {k : Nat} (h : xs[k]? = some s) (hb : hasT (xs.take k) s = false) : fnd xs s = k := by
  obtain ⟨hk, e⟩ := List.getElem?_eq_some_iff.1 h
  unfold fnd
  rw [if_pos (hasT_eq h), (List.findIdx_eq hk).2]
  exact ⟨by rw [e]; exact decide_eq_true rfl, fun j hj => decide_eq_false (hasT_take hb hj (List.getElem?_eq_getElem (by omega)))⟩
theorem fnd_ne {xs : List ByteArray} {s : ByteArray} {k : Nat} (hb : hasT (xs.take k) s = true) : fnd xs s < k := by
  have ha : hasT xs s = true := by
    unfold hasT at hb ⊢
    rw [List.any_eq_true] at hb ⊢
    obtain ⟨x, hx, e⟩ := hb
    exact ⟨x, List.mem_of_mem_take hx, e⟩
  unfold fnd
  rw [if_pos ha]
  unfold hasT at hb
  rw [List.any_eq_true] at hb
  obtain ⟨x, hx, e⟩ := hb
  obtain ⟨j, hj⟩ := List.getElem?_of_mem hx
  have hj1 := (List.getElem?_eq_some_iff.1 hj).1
  rw [List.length_take] at hj1
  rw [List.getElem?_take_of_lt (by omega)] at hj
  have h2 : (xs.findIdx fun x => decide (x = s)) ≤ j := by
    apply Decidable.byContradiction
    intro hlt
    have h3 := List.not_of_lt_findIdx (p := fun x => decide (x = s)) (xs := xs) (i := j) (by omega)
    obtain ⟨hjl, he⟩ := List.getElem?_eq_some_iff.1 hj
    rw [he] at h3
    rw [e] at h3
    exact absurd h3 (by simp)
  omega
theorem fnd_min (xs : List ByteArray) (s : ByteArray) : -1 ≤ fnd xs s := by
  unfold fnd
  split <;> omega
theorem fnd_has (xs : List ByteArray) (s : ByteArray) : decide (0 ≤ fnd xs s) = hasT xs s := by
  unfold fnd
  cases hasT xs s
  · rfl
  · rw [if_pos rfl]; exact decide_eq_true (Int.natCast_nonneg _)

/-- letter k is a letter, and none before it is the same -/
def alphaAt (xs : List ByteArray) (k : Nat) : Bool := match xs[k]? with
  | some s => small 1 3 s && !hasT (xs.take k) s
  | none => true
def isAlpha (xs : List ByteArray) : Bool := (List.range xs.length).all (alphaAt xs) && decide (1 ≤ xs.length ∧ xs.length ≤ 40)
def alphaUpto (xs : List ByteArray) (k : Nat) : Prop := ∀ i, i < k → alphaAt xs i = true
theorem alphaUpto_succ {xs : List ByteArray} {k : Nat} (h : alphaUpto xs k) (hk : alphaAt xs k = true) : alphaUpto xs (k + 1) := fun i hi => by
  by_cases e : i = k
  · rw [e]; exact hk
  · exact h i (by omega)
theorem isAlpha_no {xs : List ByteArray} {k : Nat} (hk : k < xs.length) (h : alphaAt xs k = false) : isAlpha xs = false := by
  unfold isAlpha
  rw [Bool.and_eq_false_iff]
  left
  rw [List.all_eq_false]
  exact ⟨k, by simpa using hk, by simp [h]⟩
theorem isAlpha_end {xs : List ByteArray} {n : Nat} (hn : n = xs.length) (h : alphaUpto xs n) : isAlpha xs = decide (1 ≤ n ∧ n ≤ 40) := by
  unfold isAlpha
  have : (List.range xs.length).all (alphaAt xs) = true := by
    rw [List.all_eq_true]
    intro i hi
    exact h i (by simp at hi; omega)
  rw [this, hn, Bool.true_and]
theorem alphaAt_is {xs : List ByteArray} {k : Nat} {s : ByteArray} (h : xs[k]? = some s) : alphaAt xs k = (small 1 3 s && !hasT (xs.take k) s) := by
  unfold alphaAt; rw [h]

/-! ## walks -/
theorem Strs.take {w : World} {A : Option Addr} {n c : Nat} {xs : List ByteArray} (h : Strs w A n c xs) (k : Nat) (hk : k ≤ n) : Strs w A k c (xs.take k) :=
  ⟨by rw [List.length_take, ← h.1]; omega, ⟨Nat.le_trans hk h.2.1.le, h.2.1.cap, by rw [List.length_map, List.length_take, ← h.1]; omega, fun hn => by
    obtain ⟨b, off, e, hlt, hc⟩ := h.2.1.at_ (by omega)
    refine ⟨b, off, e, hlt, fun j u hu => hc j u ?_⟩
    rw [List.map_take] at hu
    have hj := (List.getElem?_eq_some_iff.1 hu).1
    rw [List.length_take] at hj
    rwa [List.getElem?_take_of_lt (by omega)] at hu⟩, fun x hx => h.2.2 x (List.mem_of_mem_take hx)⟩

set_option maxHeartbeats 800000 in
theorem l03Lower_any (s : ByteArray) (lo hi : Int) (w : World) (hs : s.size ≤ maxLen) :
    Calls Tryd.prog 61 #[.string s, .int .i64 lo, .int .i64 hi] w fun e w' => e = .returned (.bool (small lo hi s)) ∧ Below w.heap.size w w' := by
  unfold maxLen at hs
  go_enter Tryd.func61, Tryd.ntmps61
  go_wp2
  go_loopw [7] (fun i wr => ∃ k : Nat, k ≤ s.size ∧ i = .int .i64 k ∧ Hid ((s.data.toList.take k).all lower = true) ∧ Below w.heap.size w wr) (fun i _ => s.size - (intOf i).toNat)
  case atStart => exact ⟨0, Nat.zero_le _, rfl, by simp [Hid], Below.refl _ _⟩
  case round =>
    obtain ⟨k, hk, rfl, hup, hb⟩ := hrel
    by_cases hlt : k < s.size
    · by_cases hl : lower s[k] = true
      · have HU := Lib.hid (all_upto hlt hup.out hl)
        rw [lower_u8] at hl
        have hl2 := of_decide_eq_true hl
        clear hl hup
        obtain ⟨h1, h2⟩ := hl2
        go_wp2
        go_roundw
        case rel => exact ⟨k + 1, by omega, by go_num, HU, hb⟩
        case measure => simp [intOf]; omega
      · have hl' : lower s[k] = false := by simpa using hl
        have HN := Lib.hid (show small lo hi s = false by unfold small; rw [all_no hlt hl', Bool.false_and])
        rw [lower_u8] at hl'
        have hl2 := of_decide_eq_false hl'
        clear hl hl' hup
        by_cases h1 : (s[k].toNat : Int) < 97
        · go_wp2
          go_ret
          exact ⟨by rw [HN.out]; rfl, hb⟩
        · have h2 : 122 < (s[k].toNat : Int) := by omega
          clear hl2
          go_wp2
          go_ret
          exact ⟨by rw [HN.out]; rfl, hb⟩
    · have HA := Lib.hid (all_end (by omega) hup.out)
      have HW := Lib.hid (show small lo hi s = decide (lo ≤ s.size ∧ (s.size : Int) ≤ hi) by unfold small; rw [HA.out, Bool.true_and])
      clear hup
      have HC := Lib.hid (l01In_any s.size lo hi wr)
      go_wp2_with fail
      refine HC.out.mono ?_
      rintro e_ w1 ⟨rfl, h1⟩
      go_wp2
      go_ret
      exact ⟨ret_bool (by rw [HW.out]; simp), next hb h1⟩

end Go.Proofs.YtjgcbnngjfchhaaDoor
namespace Go.Proofs.YtjgcbnngjfchhaaDoor
open Go.ChangeShapes Go.WideShapes Go.ChangeAt Go.RowKit

def alCode (xs : List ByteArray) : Int := if isAlpha xs = true then 0 else 1
def alText (xs : List ByteArray) : ByteArray := if isAlpha xs = true then joined xs else ⟨#[]⟩
theorem al_cases (xs : List ByteArray) : (isAlpha xs = true ∧ Hid (alCode xs = 0 ∧ alText xs = joined xs)) ∨ (isAlpha xs = false ∧ Hid (alCode xs = 1 ∧ alText xs = ⟨#[]⟩)) := by
  unfold Hid alCode alText
  cases isAlpha xs <;> simp

/-- ReadAlphabet's answer -/
def raList (s : ByteArray) : List ByteArray := if isAlpha (cutS 32 s) = true then cutS 32 s else []
def raCode (s : ByteArray) : Int := if isAlpha (cutS 32 s) = true then 0 else 6
theorem ra_cases (s : ByteArray) : (isAlpha (cutS 32 s) = true ∧ Hid (raCode s = 0 ∧ raList s = cutS 32 s)) ∨ (isAlpha (cutS 32 s) = false ∧ Hid (raCode s = 6 ∧ raList s = [])) := by
  unfold Hid raCode raList
  cases isAlpha (cutS 32 s) <;> simp
theorem ra_max {s : ByteArray} (hs : s.size ≤ 1048576) : (∀ x ∈ raList s, x.size ≤ maxLen) ∧ (raList s).length ≤ 40 := by
  unfold raList
  split
  · rename_i h
    refine ⟨(cut_max hs).2, ?_⟩
    simp [isAlpha] at h
    omega
  · simp
end Go.Proofs.YtjgcbnngjfchhaaDoor
namespace Go.Proofs.YtjgcbnngjfchhaaDoor
open Go.ChangeShapes Go.WideShapes Go.ChangeAt Go.RowKit

def inB (lo hi y : Int) : Bool := decide (lo ≤ y ∧ y ≤ hi)
theorem iall_at {p : Int → Bool} {xs : List Int} {k : Nat} {s : Int} (h : Hid (xs[k]? = some s)) (hp : (xs.take k).all p = true) (hs : p s = true) : (xs.take (k + 1)).all p = true := all_at h hp hs

set_option maxHeartbeats 800000 in
theorem areWithin_any (A : Option Addr) (n c : Nat) (ys : List Int) (lo hi : Int) (w : World) (hx : Ints w A n c ys) :
    Calls Tryd.prog 74 #[.slice A n c, .int .i64 lo, .int .i64 hi] w fun e w' => e = .returned (.bool (ys.all (inB lo hi))) ∧ Below w.heap.size w w' := by
  have hm := hx.2.cap
  have hnc := hx.2.le
  unfold maxLen at hm
  have HN := Lib.hid hx.1
  go_enter Tryd.func74, Tryd.ntmps74
  go_wp2
  go_loopw [11] (fun i wr => ∃ k : Nat, k ≤ n ∧ i = .int .i64 k ∧ Hid ((ys.take k).all (inB lo hi) = true) ∧ Below w.heap.size w wr) (fun i _ => n - (intOf i).toNat)
  case atStart => exact ⟨0, Nat.zero_le _, rfl, by simp [Hid], Below.refl _ _⟩
  case round =>
    obtain ⟨k, hk, rfl, hup, hb⟩ := hrel
    by_cases hlt : k < n
    · obtain ⟨b, off, rfl, hbl⟩ := hx.at_ k hlt
      obtain ⟨s, hs, c0⟩ := hx.el hb hbl k hlt
      cases hw : inB lo hi s
      · go_wp2_with fail
        refine (isb (within_any s lo hi _) hw).mono ?_
        rintro e_ w1 ⟨rfl, h1⟩
        have hc_w1 := bcell h1; have hf_w1 := bfree h1
        have HF := Lib.hid (all_not hs hw)
        go_wp2
        go_ret
        exact ⟨by rw [HF.out]; rfl, next hb h1⟩
      · go_wp2_with fail
        refine (isb (within_any s lo hi _) hw).mono ?_
        rintro e_ w1 ⟨rfl, h1⟩
        have hc_w1 := bcell h1; have hf_w1 := bfree h1
        have HU := Lib.hid (all_at hs hup.out hw)
        clear hup
        go_wp2
        go_roundw
        case rel => exact ⟨k + 1, by omega, by go_num, HU, next hb h1⟩
        case measure => simp [intOf]; omega
    · have HF := Lib.hid (all_done HN.out (by omega) hup.out)
      clear hup
      go_wp2
      go_ret
      exact ⟨by rw [HF.out]; rfl, hb⟩

/-- the letters with some indices, one behind the other -/
def cat (xs : List ByteArray) (sp : List Int) : ByteArray := sp.foldl (fun t i => t ++ xs.getD i.toNat ⟨#[]⟩) ⟨#[]⟩
theorem cat_succ {xs : List ByteArray} {sp : List Int} {k q : Nat} {x : ByteArray} (h : sp[k]? = some (q : Int)) (hx : xs[q]? = some x) : cat xs (sp.take (k + 1)) = cat xs (sp.take k) ++ x := by
  unfold cat
  rw [List.take_add_one, h]
  simp [List.getD_eq_getElem?_getD, hx]
def jlBad (xs : List ByteArray) (sp : List Int) : Bool := decide (16 < sp.length) || !sp.all (inB 0 (xs.length - 1))
def jlCode (xs : List ByteArray) (sp : List Int) : Int := if isAlpha xs = true then if jlBad xs sp = true then 2 else 0 else 1
def jlText (xs : List ByteArray) (sp : List Int) : ByteArray := if isAlpha xs = true ∧ jlBad xs sp = false then cat xs sp else ⟨#[]⟩
theorem jl_no {xs : List ByteArray} (sp : List Int) (h : isAlpha xs = false) : Hid (jlText xs sp = ⟨#[]⟩ ∧ jlCode xs sp = 1) := by
  unfold Hid jlText jlCode
  simp [h]
theorem jl_bad {xs : List ByteArray} {sp : List Int} (h : isAlpha xs = true) (hb : jlBad xs sp = true) : Hid (jlText xs sp = ⟨#[]⟩ ∧ jlCode xs sp = 2) := by
  unfold Hid jlText jlCode
  simp [h, hb]
theorem jl_ok {xs : List ByteArray} {sp : List Int} (h : isAlpha xs = true) (hb : jlBad xs sp = false) : Hid (jlText xs sp = cat xs sp ∧ jlCode xs sp = 0) := by
  unfold Hid jlText jlCode
  simp [h, hb]
theorem alpha_size {xs : List ByteArray} (h : isAlpha xs = true) {q : Nat} {x : ByteArray} (hx : xs[q]? = some x) : 1 ≤ x.size ∧ x.size ≤ 3 := by
  unfold isAlpha at h
  rw [Bool.and_eq_true, List.all_eq_true] at h
  have h1 := h.1 q (by have := (List.getElem?_eq_some_iff.1 hx).1; simpa using this)
  rw [alphaAt_is hx, Bool.and_eq_true] at h1
  have h2 := h1.1
  unfold small at h2
  simp at h2
  omega

end Go.Proofs.YtjgcbnngjfchhaaDoor
namespace Go.Proofs.YtjgcbnngjfchhaaDoor
open Go.RowKit

/-! ## a list that holds a thing, and where it lies first -/
section
variable {α : Type} [DecidableEq α]
def hasG (xs : List α) (s : α) : Bool := xs.any fun x => decide (x = s)
theorem hasG_eq {xs : List α} {k : Nat} {s : α} (h : xs[k]? = some s) : hasG xs s = true := by
  unfold hasG
  rw [List.any_eq_true]
  exact ⟨s, List.mem_of_getElem? h, decide_eq_true rfl⟩
theorem hasG_succ {xs : List α} {k : Nat} {x s : α} (h : xs[k]? = some x) (hn : ¬ x = s) (hb : hasG (xs.take k) s = false) : hasG (xs.take (k + 1)) s = false := by
  unfold hasG at hb ⊢
  rw [List.take_add_one, h, List.any_append, hb]
  simp [hn]
def fndG (xs : List α) (s : α) : Int := if hasG xs s = true then (xs.findIdx fun x => decide (x = s) : Nat) else -1
theorem fndG_none {xs : List α} {s : α} (h : hasG xs s = false) : fndG xs s = -1 := by unfold fndG; rw [h]; rfl
theorem hasG_take {xs : List α} {s : α} {k : Nat} (h : hasG (xs.take k) s = false) {j : Nat} {x : α} (hj : j < k) (hx : xs[j]? = some x) : ¬ x = s := by
  intro e
  have : hasG (xs.take k) s = true := hasG_eq (k := j) (by rw [List.getElem?_take_of_lt hj, hx, e])
  rw [h] at this
  exact absurd this (by simp)
theorem fndG_at {xs : List α} {s : α} {k : Nat} (h : xs[k]? = some s) (hb : hasG (xs.take k) s = false) : fndG xs s = k := by
  obtain ⟨hk, e⟩ := List.getElem?_eq_some_iff.1 h
  unfold fndG
  rw [if_pos (hasG_eq h), (List.findIdx_eq hk).2]
  exact ⟨by rw [e]; exact decide_eq_true rfl, fun j hj => decide_eq_false (hasG_take hb hj (List.getElem?_eq_getElem (by omega)))⟩
theorem fndG_ne {xs : List α} {s : α} {k : Nat} (hb : hasG (xs.take k) s = true) : fndG xs s < k := by
  have ha : hasG xs s = true := by
    unfold hasG at hb ⊢
    rw [List.any_eq_true] at hb ⊢
    obtain ⟨x, hx, e⟩ := hb
    exact ⟨x, List.mem_of_mem_take hx, e⟩
  unfold fndG
  rw [if_pos ha]
  unfold hasG at hb
  rw [List.any_eq_true] at hb
  obtain ⟨x, hx, e⟩ := hb
  obtain ⟨j, hj⟩ := List.getElem?_of_mem hx
  have hj1 := (List.getElem?_eq_some_iff.1 hj).1
  rw [List.length_take] at hj1
  rw [List.getElem?_take_of_lt (by omega)] at hj
  have h2 : (xs.findIdx fun x => decide (x = s)) ≤ j := by
    apply Decidable.byContradiction
    intro hlt
    have h3 := List.not_of_lt_findIdx (p := fun x => decide (x = s)) (xs := xs) (i := j) (by omega)
    obtain ⟨hjl, he⟩ := List.getElem?_eq_some_iff.1 hj
    rw [he] at h3
    rw [e] at h3
    exact absurd h3 (by simp)
  omega
theorem fndG_min (xs : List α) (s : α) : -1 ≤ fndG xs s := by
  unfold fndG
  split <;> omega
theorem fndG_has (xs : List α) (s : α) : decide (0 ≤ fndG xs s) = hasG xs s := by
  unfold fndG
  cases hasG xs s
  · rfl
  · rw [if_pos rfl]; exact decide_eq_true (Int.natCast_nonneg _)
/-- where it lies, it lies -/
theorem fndG_get {xs : List α} {s : α} {q : Nat} (h : fndG xs s = q) : xs[q]? = some s := by
  unfold fndG at h
  split at h
  · rename_i hh
    unfold hasG at hh
    rw [List.any_eq_true] at hh
    have h1 : (xs.findIdx fun x => decide (x = s)) = q := by omega
    have hl : (xs.findIdx fun x => decide (x = s)) < xs.length := List.findIdx_lt_length_of_exists hh
    have h2 := List.findIdx_getElem (w := hl)
    rw [List.getElem?_eq_getElem (by omega)]
    have h3 := of_decide_eq_true h2
    simp only [h1] at h3
    rw [h3]
  · omega
end

abbrev Rl := List Int × ByteArray
def sgB (most : Int) (xs : List Int) : Bool := xs.all (inB 0 19) && decide (1 ≤ (xs.length : Int) ∧ (xs.length : Int) ≤ most)
def isRl (r : Rl) : Bool := sgB 3 r.1 && small 0 4 r.2
def sgs (T : List Rl) : List (List Int) := T.map Prod.fst
def hasR (T : List Rl) (xs : List Int) : Bool := hasG (sgs T) xs
def fndR (T : List Rl) (xs : List Int) : Int := fndG (sgs T) xs
theorem sgs_at {T : List Rl} {k : Nat} {xs : List Int} {r : ByteArray} (h : T[k]? = some (xs, r)) : (sgs T)[k]? = some xs := by unfold sgs; rw [List.getElem?_map, h]; rfl
theorem sgs_take (T : List Rl) (k : Nat) : sgs (T.take k) = (sgs T).take k := by unfold sgs; rw [List.map_take]
theorem sgs_len (T : List Rl) : (sgs T).length = T.length := by unfold sgs; simp
theorem hasR_succ {T : List Rl} {k : Nat} {xs s : List Int} {r : ByteArray} (h : T[k]? = some (xs, r)) (hn : ¬ xs = s) (hb : hasR (T.take k) s = false) : hasR (T.take (k + 1)) s = false := by
  unfold hasR at hb ⊢
  rw [sgs_take] at hb ⊢
  exact hasG_succ (sgs_at h) hn hb
theorem fndR_at {T : List Rl} {k : Nat} {xs : List Int} {r : ByteArray} (h : T[k]? = some (xs, r)) (hb : hasR (T.take k) xs = false) : fndR T xs = k := by
  unfold hasR at hb
  rw [sgs_take] at hb
  exact fndG_at (sgs_at h) hb
theorem fndR_none {T : List Rl} {xs : List Int} (h : hasR T xs = false) : fndR T xs = -1 := fndG_none h
theorem fndR_ne {T : List Rl} {xs : List Int} {k : Nat} (hb : hasR (T.take k) xs = true) : fndR T xs < k := by
  unfold hasR at hb
  rw [sgs_take] at hb
  exact fndG_ne hb
theorem fndR_min (T : List Rl) (xs : List Int) : -1 ≤ fndR T xs := fndG_min _ _
theorem fndR_has (T : List Rl) (xs : List Int) : decide (0 ≤ fndR T xs) = hasR T xs := fndG_has _ _
theorem fndR_get {T : List Rl} {xs : List Int} {q : Nat} (h : fndR T xs = q) : ∃ r, T[q]? = some (xs, r) := by
  have := fndG_get h
  unfold sgs at this
  rw [List.getElem?_map, Option.map_eq_some_iff] at this
  obtain ⟨⟨a, r⟩, h1, h2⟩ := this
  exact ⟨r, by rw [h1]; cases h2; rfl⟩

/-- rule k is a rule, and none before it has its signs -/
def tabAt (T : List Rl) (k : Nat) : Bool := match T[k]? with
  | some r => isRl r && !hasR (T.take k) r.1
  | none => true
def isTab (T : List Rl) : Bool := (List.range T.length).all (tabAt T) && decide (T.length ≤ 30)
def tabUpto (T : List Rl) (k : Nat) : Prop := ∀ i, i < k → tabAt T i = true
theorem tabUpto_succ {T : List Rl} {k : Nat} (h : tabUpto T k) (hk : tabAt T k = true) : tabUpto T (k + 1) := fun i hi => by
  by_cases e : i = k
  · rw [e]; exact hk
  · exact h i (by omega)
theorem isTab_no {T : List Rl} {k : Nat} (hk : k < T.length) (h : tabAt T k = false) : isTab T = false := by
  unfold isTab
  rw [Bool.and_eq_false_iff]
  left
  rw [List.all_eq_false]
  exact ⟨k, by simpa using hk, by simp [h]⟩
theorem isTab_end {T : List Rl} {n : Nat} (hn : n = T.length) (h : tabUpto T n) : isTab T = decide (n ≤ 30) := by
  unfold isTab
  have : (List.range T.length).all (tabAt T) = true := by
    rw [List.all_eq_true]
    intro i hi
    exact h i (by simp at hi; omega)
  rw [this, hn, Bool.true_and]
theorem tabAt_is {T : List Rl} {k : Nat} {r : Rl} (h : T[k]? = some r) : tabAt T k = (isRl r && !hasR (T.take k) r.1) := by
  unfold tabAt; rw [h]
theorem isTab_len {T : List Rl} (h : isTab T = true) : T.length ≤ 30 := by
  unfold isTab at h
  simp at h
  exact h.2
theorem isTab_at {T : List Rl} (h : isTab T = true) {k : Nat} {r : Rl} (hr : T[k]? = some r) : isRl r = true ∧ hasR (T.take k) r.1 = false := by
  unfold isTab at h
  rw [Bool.and_eq_true, List.all_eq_true] at h
  have h1 := h.1 k (by have := (List.getElem?_eq_some_iff.1 hr).1; simpa using this)
  rw [tabAt_is hr, Bool.and_eq_true] at h1
  exact ⟨h1.1, by simpa using h1.2⟩
theorem isRl_len {xs : List Int} {r : ByteArray} (h : isRl (xs, r) = true) : 1 ≤ xs.length ∧ xs.length ≤ 3 ∧ r.size ≤ 4 := by
  unfold isRl sgB small at h
  simp at h
  omega

/-! ## the rules used -/
/-- the rule with the longest signs, of at most m, with which signs begin; -1 if there is none -/
def bestTo (T : List Rl) (s : List Int) : Nat → Int
  | 0 => -1
  | m + 1 => if 0 ≤ fndR T (s.take (m + 1)) then fndR T (s.take (m + 1)) else bestTo T s m
def best (T : List Rl) (s : List Int) : Int := bestTo T s (min 3 s.length)
def usd (T : List Rl) : Nat → List Int → Option (List Int)
  | 0, s => if s = [] then some [] else none
  | f + 1, s => if s = [] then some [] else if best T s < 0 then none else
      (usd T f (s.drop (T.getD (best T s).toNat ([], ⟨#[]⟩)).1.length)).map (best T s :: ·)
def used (T : List Rl) (s : List Int) : Option (List Int) := usd T s.length s
theorem bestTo_min (T : List Rl) (s : List Int) : ∀ m, -1 ≤ bestTo T s m
  | 0 => by simp [bestTo]
  | m + 1 => by
    unfold bestTo
    split
    · omega
    · exact bestTo_min T s m
theorem bestTo_get {T : List Rl} {s : List Int} : ∀ {m q : Nat}, bestTo T s m = q → ∃ k r, 1 ≤ k ∧ k ≤ m ∧ T[q]? = some (s.take k, r)
  | 0, q, h => by unfold bestTo at h; omega
  | m + 1, q, h => by
    unfold bestTo at h
    split at h
    · obtain ⟨r, hr⟩ := fndR_get h
      exact ⟨m + 1, r, by omega, by omega, hr⟩
    · obtain ⟨k, r, h1, h2, h3⟩ := bestTo_get h
      exact ⟨k, r, h1, by omega, h3⟩
theorem usd_empty (T : List Rl) (f : Nat) : usd T f [] = some [] := by cases f <;> simp [usd]
theorem usd_none {T : List Rl} {f : Nat} {s : List Int} (h : s ≠ []) (hn : best T s < 0) : usd T f s = none := by cases f <;> simp [usd, h, hn]
theorem usd_step {T : List Rl} {f q : Nat} {s : List Int} {x : Rl} (h : s ≠ []) (hn : best T s = q) (hx : T[q]? = some x) : usd T (f + 1) s = (usd T f (s.drop x.1.length)).map ((q : Int) :: ·) := by
  have e2 : T.getD ((q : Int)).toNat ([], ⟨#[]⟩) = x := by rw [List.getD_eq_getElem?_getD, Int.toNat_natCast, hx]; rfl
  conv => lhs; unfold usd
  rw [hn, e2, if_neg h, if_neg (by omega)]
/-- what is found so far, and what is left from place j on -/
def Usd (T : List Rl) (s0 : List Int) (f j : Nat) (P : List Int) : Prop := j ≤ s0.length ∧ s0.length - j ≤ f ∧ used T s0 = (usd T f (s0.drop j)).map (P ++ ·)
theorem usd_start (T : List Rl) (s : List Int) : Usd T s s.length 0 [] := ⟨Nat.zero_le _, by omega, by unfold used; simp⟩
theorem usd_end {T : List Rl} {s0 : List Int} {f j : Nat} {P : List Int} (h : Usd T s0 f j P) (hj : s0.length ≤ j) : used T s0 = some P := by
  rw [h.2.2, List.drop_of_length_le hj, usd_empty]; simp
theorem usd_fail {T : List Rl} {s0 : List Int} {f j : Nat} {P : List Int} (h : Usd T s0 f j P) (hj : j < s0.length) (hn : best T (s0.drop j) < 0) : used T s0 = none := by
  rw [h.2.2, usd_none (by intro e; have := congrArg List.length e; simp at this; omega) hn]; rfl
theorem usd_next {T : List Rl} {s0 : List Int} {f j q k : Nat} {P : List Int} {x : Rl} (h : Usd T s0 f j P) (hj : j < s0.length) (hn : best T (s0.drop j) = q) (hx : T[q]? = some x) (h1 : x.1.length = k) (hk : 1 ≤ k) (hk2 : k ≤ s0.length - j) : Usd T s0 (f - 1) (j + k) (P ++ [(q : Int)]) := by
  obtain ⟨ha, hb, hc⟩ := h
  obtain ⟨g, rfl⟩ : ∃ g, f = g + 1 := ⟨f - 1, by omega⟩
  refine ⟨by omega, by omega, ?_⟩
  rw [hc, usd_step (by intro e; have := congrArg List.length e; simp at this; omega) hn hx, Option.map_map, List.drop_drop, h1, Nat.add_sub_cancel]
  congr 1
  funext l
  simp
theorem usd_len {T : List Rl} : ∀ {f : Nat} {s l : List Int}, usd T f s = some l → l.length ≤ f
  | 0, s, l, h => by
    unfold usd at h
    split at h
    · simp at h; subst h; simp
    · cases h
  | f + 1, s, l, h => by
    unfold usd at h
    split at h
    · simp at h; subst h; simp
    · split at h
      · cases h
      · rw [Option.map_eq_some_iff] at h
        obtain ⟨l', h1, rfl⟩ := h
        have := usd_len h1
        simp; omega
def usedOk (T : List Rl) (s : List Int) : Bool := (used T s).isSome
def usedList (T : List Rl) (s : List Int) : List Int := (used T s).getD []
theorem usedList_len (T : List Rl) (s : List Int) : (usedList T s).length ≤ s.length := by
  unfold usedList used
  cases h : usd T s.length s with
  | none => simp
  | some l => exact usd_len h
theorem usd_in {T : List Rl} : ∀ {f : Nat} {s l : List Int}, usd T f s = some l → ∀ i ∈ l, ∃ q : Nat, i = q ∧ q < T.length
  | 0, s, l, h, i, hi => by
    unfold usd at h
    split at h
    · simp at h; subst h; simp at hi
    · cases h
  | f + 1, s, l, h, i, hi => by
    unfold usd at h
    split at h
    · simp at h; subst h; simp at hi
    · split at h
      · cases h
      · rename_i hb
        rw [Option.map_eq_some_iff] at h
        obtain ⟨l', h1, rfl⟩ := h
        rcases List.mem_cons.1 hi with rfl | hi
        · obtain ⟨q, hq⟩ : ∃ q : Nat, best T s = q := ⟨(best T s).toNat, by omega⟩
          obtain ⟨k, r, _, _, h3⟩ := bestTo_get hq
          exact ⟨q, hq, (List.getElem?_eq_some_iff.1 h3).1⟩
        · exact usd_in h1 i hi
theorem usedList_in {T : List Rl} {s : List Int} : ∀ i ∈ usedList T s, ∃ q : Nat, i = q ∧ q < T.length := by
  intro i hi
  unfold usedList used at hi
  cases h : usd T s.length s with
  | none => rw [h] at hi; simp at hi
  | some l => rw [h] at hi; exact usd_in h i hi

/-- the texts of rules, one behind the other -/
def roman (T : List Rl) (l : List Int) : ByteArray := l.foldl (fun t i => t ++ (T.getD i.toNat ([], ⟨#[]⟩)).2) ⟨#[]⟩
theorem roman_succ {T : List Rl} {l : List Int} {k q : Nat} {xs : List Int} {r : ByteArray} (h : l[k]? = some (q : Int)) (hx : T[q]? = some (xs, r)) : roman T (l.take (k + 1)) = roman T (l.take k) ++ r := by
  unfold roman
  rw [List.take_add_one, h]
  simp [List.getD_eq_getElem?_getD, hx]
end Go.Proofs.YtjgcbnngjfchhaaDoor
namespace Go.Proofs.YtjgcbnngjfchhaaDoor
open Go.ChangeShapes Go.WideShapes Go.ChangeAt Go.RowKit Go.Deep Go.Joins

/-- a slice of rules, as the list of their signs and texts -/
def Rules (w : World) (A : Option Addr) (n c : Nat) (T : List Rl) : Prop := n = T.length ∧ ∃ cs : List Value, Reads w 2 A n c cs ∧
  ∀ i, i < n → ∃ B m d xs r, T[i]? = some (xs, r) ∧ cs[i * 2]? = some (.slice B m d) ∧ cs[i * 2 + 1]? = some (.string r) ∧ Ints w B m d xs ∧ r.size ≤ maxLen
theorem Rules.below {w w' : World} {A : Option Addr} {n c : Nat} {T : List Rl} (h : Rules w A n c T) (hb : Below w.heap.size w w') : Rules w' A n c T := by
  obtain ⟨h1, cs, h2, h3⟩ := h
  refine ⟨h1, cs, h2.below hb, fun i hi => ?_⟩
  obtain ⟨B, m, d, xs, r, a1, a2, a3, a4, a5⟩ := h3 i hi
  exact ⟨B, m, d, xs, r, a1, a2, a3, a4.below hb, a5⟩
theorem Rules.cap {w : World} {A : Option Addr} {n c : Nat} {T : List Rl} (h : Rules w A n c T) : n ≤ c ∧ c ≤ maxLen := by
  obtain ⟨_, cs, h2, _⟩ := h
  exact ⟨h2.le, h2.cap⟩
theorem Rules.at_ {w : World} {A : Option Addr} {n c : Nat} {T : List Rl} (h : Rules w A n c T) (k : Nat) (hk : k < n) : ∃ b off, A = some ⟨b, off, none⟩ ∧ b < w.heap.size := by
  obtain ⟨_, cs, h2, _⟩ := h
  obtain ⟨b, off, e, hlt, _⟩ := h2.at_ (by omega)
  exact ⟨b, off, e, hlt⟩
theorem Rules.el {w wr : World} {b off n c : Nat} {T : List Rl} (h : Rules w (some ⟨b, off, none⟩) n c T) (hb : Below w.heap.size w wr) (k : Nat) (hk : k < n) :
    ∃ B m d xs r, Hid (T[k]? = some (xs, r)) ∧ wr.cell? ⟨b, off + k * 2, none⟩ = some (.slice B m d) ∧ wr.cell? ⟨b, off + k * 2 + 1, none⟩ = some (.string r) ∧ Ints wr B m d xs ∧ r.size ≤ maxLen := by
  obtain ⟨_, cs, h2, h3⟩ := h
  obtain ⟨b', off', e, hbl, hc⟩ := h2.at_ (by omega)
  injection e with e; injection e with e1 e2
  subst e1; subst e2
  obtain ⟨B, m, d, xs, r, a1, a2, a3, a4, a5⟩ := h3 k hk
  refine ⟨B, m, d, xs, r, a1, (hb.cell (p := ⟨b, off + k * 2, none⟩) hbl).trans (hc _ _ a2), ?_, a4.below hb, a5⟩
  have := (hb.cell (p := ⟨b, off + (k * 2 + 1), none⟩) hbl).trans (hc _ _ a3)
  rwa [← Nat.add_assoc] at this
theorem Rules.take {w : World} {A : Option Addr} {n c : Nat} {T : List Rl} (h : Rules w A n c T) (k : Nat) (hk : k ≤ n) : Rules w A k c (T.take k) := by
  obtain ⟨h1, cs, h2, h3⟩ := h
  refine ⟨by rw [List.length_take]; omega, cs.take (k * 2), ⟨Nat.le_trans hk h2.le, h2.cap, by rw [List.length_take, h2.len]; omega, fun hn => ?_⟩, fun i hi => ?_⟩
  · obtain ⟨b, off, e, hlt, hc⟩ := h2.at_ (by omega)
    refine ⟨b, off, e, hlt, fun j u hu => hc j u ?_⟩
    have hj := (List.getElem?_eq_some_iff.1 hu).1
    rw [List.length_take] at hj
    rw [List.getElem?_take_of_lt (by omega)] at hu
    exact hu
  · obtain ⟨B, m, d, xs, r, a1, a2, a3, a4, a5⟩ := h3 i (by omega)
    exact ⟨B, m, d, xs, r, by rw [List.getElem?_take_of_lt hi]; exact a1, by rw [List.getElem?_take_of_lt (by omega)]; exact a2, by rw [List.getElem?_take_of_lt (by omega)]; exact a3, a4, a5⟩
theorem Ints.take {w : World} {A : Option Addr} {n c : Nat} {xs : List Int} (h : Ints w A n c xs) (k : Nat) (hk : k ≤ n) : Ints w A k c (xs.take k) :=
  ⟨by rw [List.length_take, ← h.1]; omega, ⟨Nat.le_trans hk h.2.le, h.2.cap, by rw [List.length_map, List.length_take, ← h.1]; omega, fun hn => by
    obtain ⟨b, off, e, hlt, hc⟩ := h.2.at_ (by omega)
    refine ⟨b, off, e, hlt, fun j u hu => hc j u ?_⟩
    rw [List.getElem?_map] at hu ⊢
    have hj : j < (xs.take k).length := by
      rcases hq : (xs.take k)[j]? with _ | y
      · rw [hq] at hu; cases hu
      · exact (List.getElem?_eq_some_iff.1 hq).1
    rw [List.length_take] at hj
    rw [List.getElem?_take_of_lt (by omega)] at hu
    exact hu⟩⟩
/-- a slice from place j on -/
theorem Ints.drop {w : World} {b off n c : Nat} {xs : List Int} (h : Ints w (some ⟨b, off, none⟩) n c xs) (j : Nat) (hj : j ≤ n) : Ints w (some ⟨b, off + j, none⟩) (n - j) (c - j) (xs.drop j) :=
  ⟨by rw [List.length_drop, ← h.1], ⟨by have := h.2.le; omega, by have := h.2.cap; omega, by rw [List.length_map, List.length_drop, ← h.1]; omega, fun hn => by
    obtain ⟨b', off', e, hlt, hc⟩ := h.2.at_ (by omega)
    injection e with e; injection e with e1 e2
    subst e1; subst e2
    refine ⟨b, off + j, rfl, hlt, fun i u hu => ?_⟩
    rw [Nat.add_assoc]
    refine hc (j + i) u ?_
    rw [List.getElem?_map] at hu ⊢
    rw [List.getElem?_drop] at hu
    exact hu⟩⟩

section
variable {H : Type} {enc : TypeId × Value → H} {P : Program} {w : World} {base : Nat} {spare : Nat → Bool} {held : Bool}
/-- a slice read from its one cell, opened at every element -/
theorem open_row_cells {t e : TypeId} {size fuel0 : Nat} {v : Value} {y : DataW H × List MemPlace} (ht : P.underlying t = some (.slice e)) (hC : P.cellsOf e = size) (hs : 0 < size)
    (hf : DataW.trod enc P w base spare held fuel0 t [v] = some y) :
    ∃ (A : Option Addr) (n c : Nat) (el : Nat → List Value) (fuel : Nat), v = .slice A n c ∧ Reads w size A n c ((List.range n).flatMap el) ∧ (∀ i, i < n → (el i).length = size) ∧
      ∀ i, i < n → ∃ y, DataW.trod enc P w base spare held fuel e (el i) = some y := by
  rcases open_slice ht hf with ⟨hcs, _⟩ | ⟨a, len, cap, m, k, D, Pl, hcs, hb, hl, hm, hmm, _, hi⟩
  · simp only [List.cons.injEq, and_true] at hcs
    subst hcs
    exact ⟨none, 0, 0, fun _ => [], 0, rfl, ⟨Nat.le_refl _, Nat.zero_le _, by simp, fun h => absurd h (by omega)⟩, fun i h => absurd h (by omega), fun i h => absurd h (by omega)⟩
  · simp only [List.cons.injEq, and_true] at hcs
    subst hcs
    have hnm : len ≤ m := by rw [hmm]; split <;> omega
    rw [hC] at hi
    have hex : ∀ i, ∃ cs', i < len → w.cells? base (a.add (i * size)) size = some cs' ∧ DataW.trod enc P w base spare held k e cs' = some (D i, Pl i) := fun i => by
      by_cases h : i < len
      · obtain ⟨cs', h1, h2⟩ := hi i (by omega)
        exact ⟨cs', fun _ => ⟨h1, h2⟩⟩
      · exact ⟨[], fun h' => absurd h' h⟩
    obtain ⟨el, hel⟩ := Classical.axiomOfChoice hex
    have hlen : ∀ i, i < len → (el i).length = size := fun i h => (cells_at (hel i h).1).1
    refine ⟨some a, len, cap, el, k, rfl, ⟨hl, hm, ?_, fun hn => ?_⟩, hlen, fun i h => ⟨_, (hel i h).2⟩⟩
    · exact flat_len hlen
    · have h00 := (cells_at (hel 0 hn).1).2 0 hs
      rw [List.getElem?_eq_getElem (by rw [hlen 0 hn]; exact hs)] at h00
      obtain ⟨b, off, sp⟩ := a
      have hsp : sp = none := by
        have := World.cell?_spot h00
        unfold Addr.add at this
        simpa using this
      subst hsp
      have hadd : ∀ j, (⟨b, off, none⟩ : Addr).add j = ⟨b, off + j, none⟩ := fun j => by
        unfold Addr.add
        split
        · rename_i h0; rw [h0]; rfl
        · rfl
      refine ⟨b, off, rfl, ?_, fun j u hu => ?_⟩
      · have := World.block_lt_of_cell? w _ h00
        rw [hadd] at this
        exact this
      · obtain ⟨i, k2, hi1, hk2, hj, hu2⟩ := flat_at hlen hu
        have := (cells_at (hel i hi1).1).2 k2 hk2
        rw [hadd, hu2] at this
        rw [hj]
        exact this
theorem open_ints_cells {t e : TypeId} {fuel : Nat} {v : Value} {y : DataW H × List MemPlace} (ht : P.underlying t = some (.slice e)) (he : P.underlying e = some (.int .i64)) (hC : P.cellsOf e = 1)
    (h : DataW.trod enc P w base spare held fuel t [v] = some y) : ∃ (A : Option Addr) (n c : Nat) (xs : List Int), v = .slice A n c ∧ Ints w A n c xs := by
  obtain ⟨A, n, c, el, fuel, rfl, hr, hl, he2⟩ := open_row_cells ht hC (by omega) h
  have hex : ∀ i, ∃ s : Int, i < n → el i = [.int .i64 s] := fun i => by
    by_cases hlt : i < n
    · obtain ⟨y, hy⟩ := he2 i hlt
      obtain ⟨s, hs, _⟩ := DataW.trod_int he hy
      exact ⟨s, fun _ => hs⟩
    · exact ⟨0, fun h => absurd h hlt⟩
  obtain ⟨X, hX⟩ := Classical.axiomOfChoice hex
  refine ⟨A, n, c, (List.range n).map X, rfl, by simp, ?_⟩
  have : ((List.range n).map X).map (Value.int .i64) = (List.range n).flatMap el := by
    rw [congr_flat (g := fun i => [Value.int .i64 (X i)]) (fun i hi => hX i (by simpa using hi)), List.map_map, List.map_eq_flatMap]
    rfl
  rw [this]
  exact hr
theorem flat_get {n size : Nat} {el : Nat → List Value} (hlen : ∀ i, i < n → (el i).length = size) {i k : Nat} (hi : i < n) (hk : k < size) : ((List.range n).flatMap el)[i * size + k]? = (el i)[k]? := by
  induction n with
  | zero => omega
  | succ n ih =>
    have hl' : ∀ i, i < n → (el i).length = size := fun i h => hlen i (by omega)
    rw [List.range_succ, List.flatMap_append]
    simp only [List.flatMap_cons, List.flatMap_nil, List.append_nil]
    by_cases h : i < n
    · rw [List.getElem?_append_left, ih hl' h]
      rw [flat_len hl']
      have : i * size + size ≤ n * size := by rw [← Nat.succ_mul]; exact Nat.mul_le_mul_right _ h
      omega
    · obtain rfl : i = n := by omega
      rw [List.getElem?_append_right (by rw [flat_len hl']; omega), flat_len hl']
      congr 1
      omega
theorem open_rule_cells {e ti i0 ts : TypeId} {f0 f1 : Field} {fuel : Nat} {cs : List Value} {y : DataW H × List MemPlace} (he : P.underlying e = some (.struct #[f0, f1])) (hone : oneCellFields P #[f0, f1] = true)
    (h0 : f0.type = ti) (h1 : f1.type = ts) (hti : P.underlying ti = some (.slice i0)) (hi0 : P.underlying i0 = some (.int .i64)) (hC : P.cellsOf i0 = 1) (hts : P.underlying ts = some .string) (hl : cs.length = 2)
    (h : DataW.trod enc P w base spare held fuel e cs = some y) : ∃ B m d xs r, cs = [.slice B m d, .string r] ∧ Ints w B m d xs ∧ r.size ≤ maxLen := by
  obtain ⟨v0, v1, k, y0, y1, hcs, ht0, ht1⟩ := struct2 he hone hl h
  rw [h0] at ht0; rw [h1] at ht1
  obtain ⟨B, m, d, xs, rfl, hx⟩ := open_ints_cells hti hi0 hC ht0
  obtain ⟨r, hr, _, hz⟩ := DataW.trod_string hts ht1
  simp only [List.cons.injEq, and_true] at hr
  subst hr
  exact ⟨B, m, d, xs, r, hcs, hx, hz⟩
theorem open_rules_ {t e ti i0 ts : TypeId} {f0 f1 : Field} {v : Value} {r : Reach} {b0 : Nat} {d : DataW H} {p : List MemPlace} (ht : P.underlying t = some (.slice e)) (he : P.underlying e = some (.struct #[f0, f1]))
    (hone : oneCellFields P #[f0, f1] = true) (hC : P.cellsOf e = 2) (h0 : f0.type = ti) (h1 : f1.type = ts) (hti : P.underlying ti = some (.slice i0)) (hi0 : P.underlying i0 = some (.int .i64)) (hCi : P.cellsOf i0 = 1) (hts : P.underlying ts = some .string)
    (hv : Value.okWide P w r b0 t v) (h : DataW.Trod enc P w base spare held t v d p) :
    ∃ (A : Option Addr) (n c : Nat) (T : List Rl), v = .slice A n c ∧ Rules w A n c T := by
  obtain ⟨A, n, c, el, fuel, rfl, hr, hl, he2⟩ := open_row ht hC (by omega) hv h
  have hex : ∀ i, ∃ q : Rl, i < n → ∃ B m d, el i = [.slice B m d, .string q.2] ∧ Ints w B m d q.1 ∧ q.2.size ≤ maxLen := fun i => by
    by_cases hlt : i < n
    · obtain ⟨y, hy⟩ := he2 i hlt
      obtain ⟨B, m, d, xs, r, h1, h2, h3⟩ := open_rule_cells he hone h0 h1 hti hi0 hCi hts (hl i hlt) hy
      exact ⟨(xs, r), fun _ => ⟨B, m, d, h1, h2, h3⟩⟩
    · exact ⟨([], ⟨#[]⟩), fun h => absurd h hlt⟩
  obtain ⟨X, hX⟩ := Classical.axiomOfChoice hex
  refine ⟨A, n, c, (List.range n).map X, rfl, by simp, _, hr, fun i hi => ?_⟩
  obtain ⟨B, m, d, e1, e2, e3⟩ := hX i hi
  refine ⟨B, m, d, (X i).1, (X i).2, by rw [List.getElem?_map, List.getElem?_range hi]; rfl, ?_, ?_, e2, e3⟩
  · have := flat_get hl hi (k := 0) (by omega)
    rw [Nat.add_zero] at this
    rw [this, e1]
    rfl
  · rw [flat_get hl hi (by omega), e1]
    rfl
end
end Go.Proofs.YtjgcbnngjfchhaaDoor
namespace Go.Proofs.YtjgcbnngjfchhaaDoor
open Go.ChangeShapes Go.WideShapes Go.ChangeAt Go.RowKit
set_option maxRecDepth 100000 in
set_option maxHeartbeats 1000000 in
theorem l01Same_any (A B : Option Addr) (n c m d : Nat) (xs ys : List Int) (w : World) (hx : Ints w A n c xs) (hy : Ints w B m d ys) :
    Calls Tryd.prog 62 #[.slice A n c, .slice B m d] w fun e w' => e = .returned (.bool (decide (xs = ys))) ∧ Below w.heap.size w w' := by
  have hcm := hx.2.cap
  have hnc := hx.2.le
  have hdm := hy.2.cap
  have hmd := hy.2.le
  have HX := Lib.hid hx.1
  have HY := Lib.hid hy.1
  unfold maxLen at hcm hdm
  by_cases hnm : n = m
  · subst hnm
    go_enter Tryd.func62, Tryd.ntmps62
    go_wp2
    go_loopw [5] (fun i wr => ∃ (k : Nat), k ≤ n ∧ i = .int .i64 k ∧ Hid (xs.take k = ys.take k) ∧ Below w.heap.size w wr) (fun i _ => n - (intOf i).toNat)
    case atStart => exact ⟨0, Nat.zero_le _, rfl, rfl, Below.refl _ _⟩
    case round =>
      obtain ⟨k, hk, rfl, hq, hb⟩ := hrel
      by_cases hlt : k < n
      · obtain ⟨b, off, rfl, hbl⟩ := hx.at_ k hlt
        obtain ⟨s, hs, c0⟩ := hx.el hb hbl k hlt
        obtain ⟨b2, off2, rfl, hbl2⟩ := hy.at_ k hlt
        obtain ⟨t, ht, c1⟩ := hy.el hb hbl2 k hlt
        by_cases hst : s = t
        · have HQ := Lib.hid (show xs.take (k + 1) = ys.take (k + 1) by rw [List.take_add_one, List.take_add_one, hq.out, hs.out, ht.out, hst])
          have hbw : b < wr.heap.size := Nat.lt_of_lt_of_le hbl hb.size
          have hbw2 : b2 < wr.heap.size := Nat.lt_of_lt_of_le hbl2 hb.size
          subst hst
          have hq0 : (s != s) = false := by simp
          have hj0 : (0 : Int) ≤ (k : Int) := Int.natCast_nonneg _
          have hj1 : (k : Int) < (n : Int) := by omega
          go_wp2
          refine wp_region_later (by kernel_rfl) (by kernel_rfl) ?_
          repeat (go_big_quiet_step (fail))
          refine wpQuiet_nil ?_
          intro w2 hw2; have h2 := later_below hw2; clear hw2
          go_wp2
          go_roundw
          case rel => exact ⟨k + 1, by omega, by go_num, HQ, next hb h2⟩
          case measure => simp [intOf]; omega
        · have hne : (s != t) = true := by simpa using hst
          have HF := Lib.hid (show decide (xs = ys) = false by
            rw [decide_eq_false_iff_not]
            intro e
            have h1 := hs.out
            rw [e, ht.out] at h1
            exact hst (Option.some.inj h1).symm)
          clear hst
          have hbw : b < wr.heap.size := Nat.lt_of_lt_of_le hbl hb.size
          have hbw2 : b2 < wr.heap.size := Nat.lt_of_lt_of_le hbl2 hb.size
          have hj0 : (0 : Int) ≤ (k : Int) := Int.natCast_nonneg _
          have hj1 : (k : Int) < (n : Int) := by omega
          go_wp2
          refine wp_region_later (by kernel_rfl) (by kernel_rfl) ?_
          repeat (go_big_quiet_step (fail))
          refine wpQuiet_nil ?_
          intro w2 hw2; have h2 := later_below hw2; clear hw2
          go_wp2
          go_ret
          exact ⟨by rw [HF.out]; rfl, next hb h2⟩
      · have HT := Lib.hid (show decide (xs = ys) = true by
          have := hq.out
          rw [List.take_of_length_le (by have := HX.out; omega), List.take_of_length_le (by have := HY.out; omega)] at this
          exact decide_eq_true this)
        clear hq
        go_wp2
        go_ret
        exact ⟨by rw [HT.out]; rfl, hb⟩
  · have HF := Lib.hid (show decide (xs = ys) = false by
      rw [decide_eq_false_iff_not]
      intro e
      exact hnm (by rw [HX.out, HY.out, e]))
    go_enter Tryd.func62, Tryd.ntmps62
    go_wp2
    go_ret
    exact ⟨by rw [HF.out]; rfl, Below.refl _ _⟩
set_option maxRecDepth 100000 in
set_option maxHeartbeats 1000000 in
theorem slEqual_any (A B : Option Addr) (n c m d : Nat) (xs ys : List Int) (w : World) (hx : Ints w A n c xs) (hy : Ints w B m d ys) :
    Calls Tryd.prog 67 #[.slice A n c, .slice B m d] w fun e w' => e = .returned (.bool (decide (xs = ys))) ∧ Below w.heap.size w w' := by
  have hcm := hx.2.cap
  have hnc := hx.2.le
  have hdm := hy.2.cap
  have hmd := hy.2.le
  have HX := Lib.hid hx.1
  have HY := Lib.hid hy.1
  unfold maxLen at hcm hdm
  by_cases hnm : n = m
  · subst hnm
    go_enter Tryd.func67, Tryd.ntmps67
    go_wp2
    go_loopw [13] (fun i wr => ∃ (k : Nat), k ≤ n ∧ i = .int .i64 k ∧ Hid (xs.take k = ys.take k) ∧ Below w.heap.size w wr) (fun i _ => n - (intOf i).toNat)
    case atStart => exact ⟨0, Nat.zero_le _, rfl, rfl, Below.refl _ _⟩
    case round =>
      obtain ⟨k, hk, rfl, hq, hb⟩ := hrel
      by_cases hlt : k < n
      · obtain ⟨b, off, rfl, hbl⟩ := hx.at_ k hlt
        obtain ⟨s, hs, c0⟩ := hx.el hb hbl k hlt
        obtain ⟨b2, off2, rfl, hbl2⟩ := hy.at_ k hlt
        obtain ⟨t, ht, c1⟩ := hy.el hb hbl2 k hlt
        by_cases hst : s = t
        · have HQ := Lib.hid (show xs.take (k + 1) = ys.take (k + 1) by rw [List.take_add_one, List.take_add_one, hq.out, hs.out, ht.out, hst])
          have hbw : b < wr.heap.size := Nat.lt_of_lt_of_le hbl hb.size
          have hbw2 : b2 < wr.heap.size := Nat.lt_of_lt_of_le hbl2 hb.size
          subst hst
          have hq0 : (s != s) = false := by simp
          have hj0 : (0 : Int) ≤ (k : Int) := Int.natCast_nonneg _
          have hj1 : (k : Int) < (n : Int) := by omega
          go_wp2
          refine wp_region_later (by kernel_rfl) (by kernel_rfl) ?_
          repeat (go_big_quiet_step (fail))
          refine wpQuiet_nil ?_
          intro w2 hw2; have h2 := later_below hw2; clear hw2
          go_wp2
          go_roundw
          case rel => exact ⟨k + 1, by omega, by go_num, HQ, next hb h2⟩
          case measure => simp [intOf]; omega
        · have hne : (s != t) = true := by simpa using hst
          have HF := Lib.hid (show decide (xs = ys) = false by
            rw [decide_eq_false_iff_not]
            intro e
            have h1 := hs.out
            rw [e, ht.out] at h1
            exact hst (Option.some.inj h1).symm)
          clear hst
          have hbw : b < wr.heap.size := Nat.lt_of_lt_of_le hbl hb.size
          have hbw2 : b2 < wr.heap.size := Nat.lt_of_lt_of_le hbl2 hb.size
          have hj0 : (0 : Int) ≤ (k : Int) := Int.natCast_nonneg _
          have hj1 : (k : Int) < (n : Int) := by omega
          go_wp2
          refine wp_region_later (by kernel_rfl) (by kernel_rfl) ?_
          repeat (go_big_quiet_step (fail))
          refine wpQuiet_nil ?_
          intro w2 hw2; have h2 := later_below hw2; clear hw2
          go_wp2
          go_ret
          exact ⟨by rw [HF.out]; rfl, next hb h2⟩
      · have HT := Lib.hid (show decide (xs = ys) = true by
          have := hq.out
          rw [List.take_of_length_le (by have := HX.out; omega), List.take_of_length_le (by have := HY.out; omega)] at this
          exact decide_eq_true this)
        clear hq
        go_wp2
        go_ret
        exact ⟨by rw [HT.out]; rfl, hb⟩
  · have HF := Lib.hid (show decide (xs = ys) = false by
      rw [decide_eq_false_iff_not]
      intro e
      exact hnm (by rw [HX.out, HY.out, e]))
    go_enter Tryd.func67, Tryd.ntmps67
    go_wp2
    go_ret
    exact ⟨by rw [HF.out]; rfl, Below.refl _ _⟩
end Go.Proofs.YtjgcbnngjfchhaaDoor
