/- slices.Values, slices.AppendSeq, slices.Collect at spans: a slice of spans, collected anew. -/
import Derived.RangeFuncBox
import Derived.RangeFuncNested
import Derived.RangeFuncLeaves
import Derived.Shelf.Abstract
import Derived.OwnWalkIn
import Derived.TacticsInMore
import Derived.LoopNIn
import Derived.LoopIn
import Derived.Maps.AppendAt
import Derived.Test.YtldikfikcnkgcaaYrB
namespace Go.Proofs.Ytldikfikcnkgcaa
open Go.ChangeShapes Go.WideShapes Go.ChangeAt Go.RowKit Go.Shelf
attribute [local go_sem] Oper.semAt_some
def uptoG {α : Type} (f : Nat → α) (k : Nat) : List α := (List.range k).map f
theorem uptoG_succ {α : Type} (f : Nat → α) (k : Nat) : uptoG f (k + 1) = uptoG f k ++ [f k] := by simp [uptoG, List.range_succ]
theorem ownFrom_up {β : Type} {B B' : Nat} {I : β → World → Prop} (h : OwnFrom B I) (hB : B ≤ B') : OwnFrom B' I := fun s W W' row a hg hr => h s W W' row a hg (fun r e => ⟨Nat.le_trans hB (hr r e).1, (hr r e).2⟩)
theorem boxAx (B : Nat) (f : Nat → Act) (o : Obj) (a' : Act) (ho : o.isCells = true := by rfl) : OwnFrom B (fun (_ : Unit) W => ∃ p, W.heap[p]? = some o ∧ a' = f p) := by
  rintro s X Y row ⟨p, hp, e⟩ hg hr
  refine ⟨p, (hg.block p (Array.getElem?_eq_some_iff.1 hp).1 (fun e' => ?_)).trans hp, e⟩
  obtain ⟨_, o', h1, h2⟩ := hr p e'.symm
  rw [hp] at h1
  cases h1
  rw [ho] at h2
  cases h2
theorem uptoG_length {α : Type} (f : Nat → α) (k : Nat) : (uptoG f k).length = k := by simp [uptoG]
theorem uptoG_take {α : Type} (d : α) (zs : List α) {k : Nat} (hk : k ≤ zs.length) : uptoG (fun j => zs.getD j d) k = zs.take k := by
  apply List.ext_getElem
  · simp [uptoG, hk]
  · intro i h1 h2
    have : i < zs.length := by simp [uptoG] at h1; omega
    simp [uptoG, this, List.getD_eq_getElem?_getD]
set_option maxRecDepth 100000 in
set_option maxHeartbeats 2000000 in
theorem valuesP1_in (F : Fence) (n : Nat) (h7 : F.fn 69) (hro : F.round = none) (hn : 1 ≤ n) (l Bs n₀ b off len cap : Nat) (zs : List Sp) (A : Option Addr) (hA : 0 < len → A = some ⟨b, off, none⟩) (hreach : len ≤ 1048576) (hb : b < n₀) (J Jx : List Sp → World → Prop)
    (hY : ∀ pre x W, J pre W → pre.length < len → YieldAt F (n - 1) Try.prog l #[.agg #[.int .i64 x.1, .int .i64 x.2]] W fun e W' =>
      (e = .returned (.bool true) ∧ J (pre ++ [x]) W' ∧ Below n₀ W W') ∨ (e = .returned (.bool false) ∧ Jx (pre ++ [x]) W'))
    (W : World) (hn₀ : n₀ ≤ W.heap.size) (hJ : AbidesFrom W.heap.size J) (hBs : W.cell? ⟨Bs, 0, none⟩ = some (.slice A len cap)) (hc : ∀ j, j < len → W.cell? ⟨b, off + j * 2, none⟩ = some (.int .i64 (zs.getD j (0, 0)).1) ∧ W.cell? ⟨b, off + j * 2 + 1, none⟩ = some (.int .i64 (zs.getD j (0, 0)).2)) (h0 : J [] W) :
    CallsIn F n Try.prog 69 #[.func (.yield l) #[] #[], .pointer (some ⟨Bs, 0, none⟩)] W fun e W' => (∃ v, e = .returned v) ∧
      ((∃ ys, ys = uptoG (fun j => zs.getD j (0, 0)) len ∧ J ys W') ∨ (∃ pre, (∃ k, k ≤ len ∧ pre = uptoG (fun j => zs.getD j (0, 0)) k) ∧ Jx pre W')) := by
  refine callsIn_of_wp Try.func69 rfl h7 ?_ hro
  simp only [Try.ntmps69, List.size_toArray, List.length_cons, List.length_nil, Nat.reduceAdd, Nat.reduceSub, Array.replicate_succ, Array.replicate_zero, List.push_toArray, List.append_toArray, List.nil_append, List.cons_append]
  gi_wp2
  gi_loopw [7] (fun i wr => ∃ k : Nat, k ≤ len ∧ i = .int .i64 k ∧ J (uptoG (fun j => zs.getD j (0, 0)) k) wr ∧ Below n₀ W wr)
    (fun i _ => len - (intOf i).toNat)
  case atStart => exact ⟨0, Nat.zero_le _, rfl, h0, Below.refl _ _⟩
  case round =>
    obtain ⟨k, hk, rfl, hJs, hnx⟩ := hrel
    by_cases hlt : k < len
    · have hbw : b < n₀ := hb
      obtain rfl := hA (by omega)
      have c0 := (hnx.cell (p := ⟨b, off + k * 2, none⟩) hb).trans (hc k hlt).1
      have c1 := (hnx.cell (p := ⟨b, off + k * 2 + 1, none⟩) hb).trans (hc k hlt).2
      obtain ⟨z1, z2, hz⟩ : ∃ z1 z2, zs.getD k (0, 0) = (z1, z2) := ⟨_, _, rfl⟩
      have hY' := hY _ (zs.getD k (0, 0)) (wr.alloc (.cells #[.int .i64 z1, .int .i64 z2] 42)) (hJ _ wr _ none hJs (World.grownBy_alloc wr _ none) (fun r e => by cases e)) (by rw [uptoG_length]; exact hlt)
      have hsc := uptoG_succ (fun j => zs.getD j (0, 0)) k
      have HSC := Lib.hid hsc
      rw [hz] at c0 c1 hY'
      obtain ⟨fn, tmps, assign, body, hy, hR⟩ := hY'
      have hna := hnx.alloc (Nat.le_trans hn₀ hnx.size) (.cells #[.int .i64 z1, .int .i64 z2] 42)
      clear hsc
      gi_wp2
      refine hR.mono ?_
      rintro e W3 (⟨rfl, hJ3, hk3⟩ | ⟨rfl, hJx3⟩)
      · gi_wp2
        go_roundw
        case rel => exact ⟨k + 1, by omega, by simp, by rw [HSC.out, hz]; exact hJ3, hna.trans hk3⟩
        case measure => simp [intOf]; omega
      · gi_wp2
        refine bodyPost_ret (results_none rfl _ _ _) rfl ?_
        exact ⟨⟨_, rfl⟩, .inr ⟨_, ⟨k + 1, by omega, by rw [HSC.out, hz]⟩, hJx3⟩⟩
    · obtain rfl : k = len := by omega
      gi_wp2
      go_end0
      exact ⟨⟨_, rfl⟩, .inl ⟨_, rfl, hJs⟩⟩
set_option maxHeartbeats 1000000 in
theorem valuesP_in (F : Fence) (n : Nat) (h5 : F.fn 56) (hro : F.round = none) (a : Option Addr) (len cap : Nat) (w : World) :
    CallsIn F n Try.prog 56 #[.slice a len cap] w fun e w' => e = .returned (.func (.func 69) #[] #[.pointer (some ⟨w.heap.size, 0, none⟩)]) ∧ w' = w.alloc (.cells #[.slice a len cap] 24) := by
  refine callsIn_of_wp Try.func56 rfl h5 ?_ hro
  simp only [Try.ntmps56, List.size_toArray, List.length_cons, List.length_nil, Nat.reduceAdd, Nat.reduceSub, Array.replicate_succ, Array.replicate_zero, List.push_toArray, List.append_toArray, List.nil_append, List.cons_append]
  gi_wp2
  go_ret
  exact ⟨rfl, rfl⟩
theorem valuesP_stops (F : Fence) (n : Nat) (h7 : F.fn 69) (hro : F.round = none) (hn : 1 ≤ n) (Bs n₀ b off cap : Nat) (zs : List Sp) (A : Option Addr) (hA : 0 < zs.length → A = some ⟨b, off, none⟩) (hreach : zs.length ≤ 1048576) (w : World) (hBs : Bs < w.heap.size) (hn₀ : n₀ ≤ w.heap.size) (hb : b < n₀)
    (hc : w.cell? ⟨Bs, 0, none⟩ = some (.slice A zs.length cap)) (hI : ∀ j, j < zs.length → w.cell? ⟨b, off + j * 2, none⟩ = some (.int .i64 (zs.getD j (0, 0)).1) ∧ w.cell? ⟨b, off + j * 2 + 1, none⟩ = some (.int .i64 (zs.getD j (0, 0)).2)) :
    SeqStopsK F n Try.prog 69 #[.pointer (some ⟨Bs, 0, none⟩)] (fun x : Sp => #[Value.agg #[.int .i64 x.1, .int .i64 x.2]]) (Below n₀) (fun ys => ys = zs) (fun pre => pre <+: zs) zs.length w := fun l J Jx W hW hJ _ hY h0 => by
  have hc' := (hW.cell (p := ⟨Bs, 0, none⟩) hBs).trans hc
  have hcs : ∀ j, j < zs.length → W.cell? ⟨b, off + j * 2, none⟩ = some (.int .i64 (zs.getD j (0, 0)).1) ∧ W.cell? ⟨b, off + j * 2 + 1, none⟩ = some (.int .i64 (zs.getD j (0, 0)).2) := fun j hj => ⟨(hW.cell (p := ⟨b, off + j * 2, none⟩) (Nat.lt_of_lt_of_le hb hn₀)).trans (hI j hj).1, (hW.cell (p := ⟨b, off + j * 2 + 1, none⟩) (Nat.lt_of_lt_of_le hb hn₀)).trans (hI j hj).2⟩
  refine (valuesP1_in F n h7 hro hn l Bs n₀ b off zs.length cap zs A hA hreach hb J Jx hY W (Nat.le_trans hn₀ hW.size) hJ hc' hcs h0).mono ?_
  rintro e W' ⟨he, ⟨ys, rfl, hj⟩ | ⟨pre, ⟨k, hk, rfl⟩, hj⟩⟩
  · exact ⟨he, .inl ⟨_, by rw [uptoG_take _ _ (Nat.le_refl _), List.take_length], hj⟩⟩
  · exact ⟨he, .inr ⟨_, by rw [uptoG_take _ zs hk]; exact List.take_prefix _ _, hj⟩⟩
set_option maxRecDepth 100000 in
set_option maxHeartbeats 2000000 in
theorem appendSeqP_in (F : Fence) (n : Nat) (h3 : F.fn 75) (h5 : F.fn 69) (hro : F.round = none) (hn : 3 ≤ n) (Bs b off cap : Nat) (zs : List Sp) (A : Option Addr) (hA : 0 < zs.length → A = some ⟨b, off, none⟩) (hlen : zs.length ≤ 1048576) (w : World) (hBs : Bs < w.heap.size) (hb : b < w.heap.size)
    (hc : w.cell? ⟨Bs, 0, none⟩ = some (.slice A zs.length cap)) (hI : ∀ j, j < zs.length → w.cell? ⟨b, off + j * 2, none⟩ = some (.int .i64 (zs.getD j (0, 0)).1) ∧ w.cell? ⟨b, off + j * 2 + 1, none⟩ = some (.int .i64 (zs.getD j (0, 0)).2)) :
    CallsIn F n Try.prog 75 #[.slice none 0 0, .func (.func 69) #[] #[.pointer (some ⟨Bs, 0, none⟩)]] w fun e W' => ∃ v, e = .returned v ∧ W'.ownsRow w.heap.size 42 2 v zs.length (spanCells zs) ∧ Below w.heap.size w W' := by
  have h1 : 1 ≤ n := by omega
  obtain ⟨i0, hi, hz0, hz1, hz2⟩ := info_parts infoSpan
  refine callsIn_of_wp_marks Try.func75 rfl h3 ?_ hro
  simp only [Try.ntmps75, List.size_toArray, List.length_cons, List.length_nil, Nat.reduceAdd, Nat.reduceSub, Array.replicate_succ, Array.replicate_zero, List.push_toArray, List.append_toArray, List.nil_append, List.cons_append]
  gi_wp2
  have bO := Boxed.new w 24 (.slice none 0 0)
  have hB0 : Below w.heap.size w (w.alloc (.cells #[.slice none 0 0] 24)) := (Below.refl _ w).alloc (Nat.le_refl _) _
  have hOI : OwnFrom w.heap.size (fun (pre : List Sp) (W : World) => (∃ v, Boxed W w.heap.size 24 v ∧ W.ownsRow w.heap.size 42 2 v pre.length (spanCells pre) ∧ True) ∧ Below w.heap.size w W) :=
    OwnFrom.and (Own.from (holdsRow_own w.heap.size w.heap.size 24 42 2 (fun pre : List Sp => pre.length) (fun pre => spanCells pre) (fun _ _ => True)) _) (ownFrom_below (Nat.le_refl _) (by simp))
  have hOI' := ownFrom_up hOI (show w.heap.size ≤ (w.alloc (.cells #[.slice none 0 0] 24)).heap.size by simp)
  refine wpIn_rangeFunc_ownH hro h1 (gf := 69) (lb := #[.pointer (some ⟨Bs, 0, none⟩)]) rfl h5 (enters_of Try.func69 (by kernel_rfl) rfl)
    (valuesP_stops F (n - 1) h5 hro (by omega) Bs w.heap.size b off cap zs A hA hlen _ (by simp; omega) (by simp) hb ((hB0.cell (p := ⟨Bs, 0, none⟩) hBs).trans hc) (fun j hj => ⟨(hB0.cell (p := ⟨b, off + j * 2, none⟩) hb).trans (hI j hj).1, (hB0.cell (p := ⟨b, off + j * 2 + 1, none⟩) hb).trans (hI j hj).2⟩)) belowK_t (belowK_b (by simp)) (Below.refl _ _) (fun _ => rfl)
    (fun pre W => (∃ v, Boxed W w.heap.size 24 v ∧ W.ownsRow w.heap.size 42 2 v pre.length (spanCells pre) ∧ True) ∧ Below w.heap.size w W)
    (fun _ _ _ => False)
    hOI'
    (fun _ _ _ _ _ hs _ _ => hs)
    ⟨⟨_, bO, World.ownsRow_nil _ _ _ _, trivial⟩, hB0⟩
    (fun x a' W => ∃ p, W.heap[p]? = some (.cells #[.int .i64 x.1, .int .i64 x.2] 42 (0, 0)) ∧ a' = { tmps := #[.slice none 0 0, .func (.func 69) #[] #[.pointer (some ⟨Bs, 0, none⟩)], .pointer (some ⟨w.heap.size, 0, none⟩), undef, .slice none 0 0, .pointer (some ⟨p, 0, none⟩), .func (.func 69) #[] #[.pointer (some ⟨Bs, 0, none⟩)], .agg #[.int .i64 x.1, .int .i64 x.2], undef, undef, undef, undef, undef], defers := [] })
    (fun x a' => boxAx _ _ _ _) ?assign ?body ?done ?stop
  case assign =>
    intro l pre x W K hI2 hK
    gi_wp2
    refine hK _ _ ((KeepsOthers.alloc W _).from _) ((Below.refl _ W).alloc (by have := hI2.2.size; simp; omega) _) (hOI.alloc _ hI2) ⟨W.heap.size, World.alloc_heap_new W _, rfl⟩
  case body =>
    rintro l pre x a' W _ _ ⟨⟨v, hv, hrow, _⟩, hB⟩ ⟨p, hp, rfl⟩ hlt
    have hc := hv.cell
    have hpl : pre.length + 1 ≤ zs.length := by omega
    have hp0 : W.cell? ⟨p, 0, none⟩ = some (.int .i64 x.1) := by simp [World.cell?, hp]
    have hp1 : W.cell? ⟨p, 1, none⟩ = some (.int .i64 x.2) := by simp [World.cell?, hp]
    have hpl2 : p < W.heap.size := (Array.getElem?_eq_some_iff.1 hp).1
    gi_wp2_with (gi_at_builtin; refine wpListIn_append_own _ rfl _ _ 24 rfl w.heap.size 42 i0 (.agg #[.int .i64 0, .int .i64 0]) 2 16 Try.underlying24 hi hz0 hz1 hz2 rfl (by decide) _ _ _ rfl (hrow.alloc _) ⟨W.heap.size, 0, none⟩ 1 1 [.int .i64 x.1, .int .i64 x.2] rfl rfl (cell_two_newS W _ _ _) (by simp [Value.oneCell']) (by unfold maxLen; omega) (by omega) (by have := hB.size; simp; omega) ?_; intro v' w1 hown' hgrow _; obtain ⟨g', cap', rfl⟩ := ownsRow_succ hown'; obtain ⟨hv1, hv2, hr2, hk2, hb2⟩ := hv.appended (by decide) hrow hB.size (Nat.le_refl _) hown' hgrow; have hc1 := hv1.cell; have hf1 := hv1.frozen)
    exact ⟨hk2.from _, hb2, ⟨_, hv2, by simpa [spanCells_append, spanCells_one] using hr2, trivial⟩, hB.trans hb2⟩
  case done =>
    rintro D ys W hD rfl ⟨⟨v, hv, hrow, _⟩, hB⟩ hK
    have hc := hv.cell
    gi_wp2
    refine ⟨by simp, .inl ⟨_, _, rfl, run_takeDeferred hK, ?_⟩⟩
    exact ⟨_, results_tmp rfl _ _ _, v, rfl, ownsRow_putObj hrow _ hK rfl, hB.trans (belowK_b (w := w) (Nat.le_refl _) W D _ _ (by simp at hD; omega) hK rfl rfl)⟩
  case stop =>
    rintro D c pre W _ _ h _
    exact h.elim
set_option maxHeartbeats 1000000 in
theorem collectP_in (F : Fence) (n : Nat) (h4 : F.fn 67) (h3 : F.fn 75) (h5 : F.fn 69) (hro : F.round = none) (hn : 4 ≤ n) (Bs b off cap : Nat) (zs : List Sp) (A : Option Addr) (hA : 0 < zs.length → A = some ⟨b, off, none⟩) (hlen : zs.length ≤ 1048576) (w : World) (hBs : Bs < w.heap.size) (hb : b < w.heap.size)
    (hc : w.cell? ⟨Bs, 0, none⟩ = some (.slice A zs.length cap)) (hI : ∀ j, j < zs.length → w.cell? ⟨b, off + j * 2, none⟩ = some (.int .i64 (zs.getD j (0, 0)).1) ∧ w.cell? ⟨b, off + j * 2 + 1, none⟩ = some (.int .i64 (zs.getD j (0, 0)).2)) :
    CallsIn F n Try.prog 67 #[.func (.func 69) #[] #[.pointer (some ⟨Bs, 0, none⟩)]] w fun e W' => ∃ v, e = .returned v ∧ W'.ownsRow w.heap.size 42 2 v zs.length (spanCells zs) ∧ Below w.heap.size w W' := by
  have h1 : 1 ≤ n := by omega
  refine callsIn_of_wp Try.func67 rfl h4 ?_ hro
  simp only [Try.ntmps67, List.size_toArray, List.length_cons, List.length_nil, Nat.reduceAdd, Nat.reduceSub, Array.replicate_succ, Array.replicate_zero, List.push_toArray, List.append_toArray, List.nil_append, List.cons_append]
  gi_wp2_with (gi_at_call 75; refine (appendSeqP_in F (n - 1) h3 h5 hro (by omega) Bs b off cap zs A hA hlen w hBs hb hc hI).mono ?_; rintro e w' ⟨v, rfl, hown, hbel⟩)
  go_ret
  exact ⟨v, rfl, hown, hbel⟩
/-- slices.Collect of slices.Values: a slice of the call's own -/
theorem collectP_any (Bs b off cap : Nat) (zs : List Sp) (A : Option Addr) (hA : 0 < zs.length → A = some ⟨b, off, none⟩) (hlen : zs.length ≤ 1048576) (w : World) (hBs : Bs < w.heap.size) (hb : b < w.heap.size)
    (hc : w.cell? ⟨Bs, 0, none⟩ = some (.slice A zs.length cap)) (hI : ∀ j, j < zs.length → w.cell? ⟨b, off + j * 2, none⟩ = some (.int .i64 (zs.getD j (0, 0)).1) ∧ w.cell? ⟨b, off + j * 2 + 1, none⟩ = some (.int .i64 (zs.getD j (0, 0)).2)) :
    Calls Try.prog 67 #[.func (.func 69) #[] #[.pointer (some ⟨Bs, 0, none⟩)]] w fun e W' => ∃ v, e = .returned v ∧ W'.ownsRow w.heap.size 42 2 v zs.length (spanCells zs) ∧ Below w.heap.size w W' :=
  (callsIn_wide (n := 5)).1 (collectP_in Fence.wide 5 trivial trivial trivial rfl (by omega) Bs b off cap zs A hA hlen w hBs hb hc hI)
end Go.Proofs.Ytldikfikcnkgcaa
