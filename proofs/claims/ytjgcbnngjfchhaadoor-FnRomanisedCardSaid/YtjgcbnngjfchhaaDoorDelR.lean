/- A rule taken out of a table of the call's own: slices.Delete at rules (two cells each). -/
import Derived.Test.YtjgcbnngjfchhaaDoorCloneT
import Derived.Test.YtjgcbnngjfchhaaDoorCutR
import Derived.Lib.SliceRun
namespace Go.Proofs.YtjgcbnngjfchhaaDoor
open Go.ChangeShapes Go.WideShapes Go.ChangeAt Go.RowKit
section
variable {P : Program} {w : World}
/-- an append into the room of a row of the call's own, where a region draws its order -/
theorem step_own_room {ops : Array Oper} {o : Oper} {a : Act} {K : Act → World → Prop} {Q : Exit → Act → World → Prop} {E : Prop} (hgd : o.guard = none) (s x : Operand) (t : TypeId)
    (ho : o.op = .call { callee := .builtin .append, args := #[s, x], argTypes := #[t, t] })
    (base : Nat) (e : TypeId) (i : TypeInfo) (size : Nat) (ht : P.underlying t = some (.slice e)) (hi : P.info? e = some i)
    (hsize : i.size = size) (g k cap n : Nat) (xs : List Value) (hs : a.eval s = .slice (some ⟨g, 0, none⟩) k cap) (hown : w.ownsRow base e size (.slice (some ⟨g, 0, none⟩) n cap) n xs)
    (ad : Addr) (m c : Nat) (news : List Value) (hx : a.eval x = .slice (some ad) m c) (hl : news.length = m * size) (hnews : ∀ j u, news[j]? = some u → w.cell? (ad.add j) = some u) (h1 : ∀ u ∈ news, u.oneCell' = true)
    (L : Nat) (hL : k + m = L) (hkm : L ≤ n)
    (h : ∀ w', w'.ownsRow base e size (.slice (some ⟨g, 0, none⟩) n cap) n (xs.take (k * size) ++ news ++ xs.drop (k * size + news.length)) → w.grownBy w' (some g) → K (a.put o.dst (.slice (some ⟨g, 0, none⟩) L cap)) w') :
    if Region.wanted o (yielded ops a.tmps) = true then Oper.wp P o a w K Q else E := by
  have hw : Region.wanted o (yielded ops a.tmps) = true := by unfold Region.wanted; rw [hgd]
  rw [if_pos hw]
  rcases hown.2 with ⟨h', _⟩ | ⟨g', cap', cur, h', hb, hg, hnc, hcm, hcs, htake⟩
  · simp at h'
  simp only [Value.slice.injEq, Option.some.injEq, Addr.mk.injEq, and_true, true_and] at h'
  obtain ⟨rfl, rfl⟩ := h'
  have hxl := hown.1
  subst hsize
  subst hL
  have hms : (k + m) * i.size ≤ n * i.size := Nat.mul_le_mul_right _ hkm
  have hnc2 : n * i.size ≤ cap * i.size := Nat.mul_le_mul_right _ hnc
  rw [Nat.add_mul] at hms
  have hr := run_append_room (P := P) w t o.type e i ht hi g k cap cur hg ad m c news hl hnews h1 (by omega) (by rw [hcs, hl]; omega)
  unfold Oper.wp execOp
  simp only [ho, resolve, invoke, builtin, Sem.run_bind, Sem.run_pure, Result.andThen_ok, List.map_toArray, List.map_cons, List.map_nil, hs, hx, hr]
  refine h _ ⟨?_, .inr ⟨g, cap, _, rfl, hb, setRow_heap w g cur _ e _ hg, hnc, hcm, ?_, ?_⟩⟩ ⟨rfl, rfl, rfl, by simp, fun q _ hk => setRow_other w g q _ (fun e => hk (by rw [e]))⟩
  · simp only [List.length_append, List.length_take, List.length_drop]
    omega
  · simp only [List.size_toArray, List.length_append, List.length_take, List.length_drop, Array.length_toList]
    omega
  · rw [← htake]
    simp only []
    apply List.ext_getElem?
    intro q
    simp only [List.getElem?_take, List.getElem?_append, List.length_append, List.length_take, List.getElem?_drop, Array.length_toList]
    repeat' split
    all_goals first | rfl | omega | (congr 1; omega) | skip
end
theorem own_short {w : World} {base g n cap m : Nat} {e : TypeId} {size : Nat} {xs : List Value} (h : w.ownsRow base e size (.slice (some ⟨g, 0, none⟩) n cap) n xs) (hm : m ≤ n) : w.ownsRow base e size (.slice (some ⟨g, 0, none⟩) m cap) m (xs.take (m * size)) := by
  have hl := h.1
  have hms : m * size ≤ n * size := Nat.mul_le_mul_right _ hm
  rcases h.2 with ⟨h', _⟩ | ⟨g', cap', cur, h', hb, hg, hnc, hcm, hcs, htake⟩
  · simp at h'
  simp only [Value.slice.injEq, Option.some.injEq, Addr.mk.injEq, and_true, true_and] at h'
  obtain ⟨rfl, rfl⟩ := h'
  refine ⟨by rw [List.length_take]; omega, .inr ⟨g, cap, cur, rfl, hb, hg, by omega, hcm, hcs, ?_⟩⟩
  rw [← htake, List.take_take, Nat.min_eq_left hms]
theorem run_clear_rule {P : Program} (w : World) (t e ty : TypeId) (ht : P.underlying t = some (.slice e)) (hv : ∀ w, (zeroValue e).run P w = .ok (.agg #[.slice none 0 0, .string ⟨#[]⟩]) w) (b o c : Nat)
    (h0 : (w.cell? ⟨b, o, none⟩).isSome = true) (h1 : (w.cell? ⟨b, o + 1, none⟩).isSome = true) (f0 : w.frozen? ⟨b, o, none⟩ = false) (f1 : w.frozen? ⟨b, o + 1, none⟩ = false) :
    (Builtin.clear_ #[t] ty #[.slice (some ⟨b, o, none⟩) 1 c]).run P w = .ok (.tuple #[]) (w.setCells b o [.slice none 0 0, .string ⟨#[]⟩]) := by
  have hst := run_storeCells_cells (P := P) b o [.slice none 0 0, .string ⟨#[]⟩] 0 w (by
    intro j hj
    match j, hj with
    | 0, _ => simpa using h0
    | 1, _ => simpa using h1) (by
    intro j hj
    match j, hj with
    | 0, _ => simpa using f0
    | 1, _ => simpa using f1) (by intro v hv'; simp at hv'; rcases hv' with rfl | rfl <;> rfl)
  simp only [Nat.add_zero] at hst
  have hz : (Builtin.zeroCells (Value.agg #[.slice none 0 0, .string ⟨#[]⟩]).cells 1).toList = [.slice none 0 0, .string ⟨#[]⟩] := by kernel_rfl
  simp [Builtin.clear_, run_underlying ht, hv, hz, hst]

set_option maxRecDepth 100000 in
set_option maxHeartbeats 2000000 in
theorem delRule_any (g n cap i j base : Nat) (hj : j = i + 1) (cs : List Value) (w : World) (hown : w.ownsRow base 39 2 (.slice (some ⟨g, 0, none⟩) n cap) n cs) (hi : i < n) (hn : n ≤ 1048576) (hone : ∀ u ∈ cs, u.oneCell' = true) :
    Calls Tryd.prog 58 #[.slice (some ⟨g, 0, none⟩) n cap, .int .i64 i, .int .i64 j] w fun e w' => e = .returned (.slice (some ⟨g, 0, none⟩) (n - 1) cap) ∧
      w'.ownsRow base 39 2 (.slice (some ⟨g, 0, none⟩) (n - 1) cap) (n - 1) (cs.take (i * 2) ++ cs.drop (j * 2)) ∧ w.grownBy w' (some g) := by
  obtain ⟨i0, hi0, hz0, hz1, hz2⟩ := info_parts infoRule
  have hlen := hown.1
  have hcap : n ≤ cap ∧ cap ≤ maxLen := by
    rcases hown.2 with ⟨h', _⟩ | ⟨g', cap', cur, h', hb, hg, hnc, hcm, _⟩
    · simp at h'
    · simp only [Value.slice.injEq, Option.some.injEq, Addr.mk.injEq, and_true, true_and] at h'
      obtain ⟨rfl, rfl⟩ := h'
      exact ⟨hnc, hcm⟩
  have hcm := hcap.2
  unfold maxLen at hcm
  have hic : j ≤ cap := by omega
  have hcells := hown.cells (g := g) rfl
  obtain ⟨A, hA, hsrc⟩ : ∃ A : Addr, (if cap = j then some (⟨g, 0, none⟩ : Addr) else some ⟨g, j * 2, none⟩) = some A ∧ ∀ q u, (cs.drop (j * 2))[q]? = some u → w.drew.cell? (A.add q) = some u := by
    by_cases h : cap = j
    · refine ⟨⟨g, 0, none⟩, by simp [h], fun q u hu => ?_⟩
      have := (List.getElem?_eq_some_iff.1 hu).1
      simp at this
      omega
    · refine ⟨⟨g, j * 2, none⟩, by simp [h], fun q u hu => ?_⟩
      rw [List.getElem?_drop] at hu
      have := hcells _ _ hu
      rw [Addr.add_lit, Nat.zero_add] at this
      rw [Addr.add_lit]
      exact this
  have hl2 : (cs.drop (j * 2)).length = (n - j) * 2 := by simp; omega
  have ND := own_below hown (Below.refl w.heap.size w).drew
  have hic0 : i ≤ cap := by omega
  have hic1 : (i : Int) ≤ (cap : Int) := by omega
  have hjn1 : (j : Int) ≤ (n : Int) := by omega
  have hjn : j ≤ n := by omega
  have hin : i ≤ n := by omega
  have hne : ((i : Int) == (j : Int)) = false := by rw [beq_eq_false_iff_ne]; omega
  have hnews1 : ∀ u ∈ cs.drop (j * 2), u.oneCell' = true := fun u hu => hone u (List.mem_of_mem_drop hu)
  have W1 : ∀ w1 : World, w1.ownsRow base 39 2 (.slice (some ⟨g, 0, none⟩) n cap) n (cs.take (i * 2) ++ cs.drop (j * 2) ++ cs.drop (i * 2 + (cs.drop (j * 2)).length)) → True := fun _ _ => trivial
  clear W1
  have hkm : n - 1 ≤ n := by omega
  have hL : i + (n - j) = n - 1 := by omega
  have hkm2 : i + (n - j) ≤ n := by omega
  have hLi : ((n - 1 : Nat) : Int) ≤ (n : Int) := by omega
  have hLc : ¬ cap = n - 1 := by omega
  have hLc' : n - 1 ≤ cap := by omega
  have hL1 : n - (n - 1) = 1 := by omega
  have hL1 := Lib.hid hL1
  have hj0 : (0 : Int) ≤ (j : Int) := by omega
  have zl : i + (n - j) + 1 = n := by omega
  have hcl : ∀ (W : World) (ty : TypeId), W.ownsRow base 39 2 (.slice (some ⟨g, 0, none⟩) n cap) n (cs.take (i * 2) ++ cs.drop (j * 2) ++ cs.drop (i * 2 + (cs.drop (j * 2)).length)) →
      ∃ W', W'.ownsRow base 39 2 (.slice (some ⟨g, 0, none⟩) (n - 1) cap) (n - 1) (cs.take (i * 2) ++ cs.drop (j * 2)) ∧ W.grownBy W' (some g) ∧
        (Builtin.clear_ #[27] ty #[.slice (some ⟨g, (n - 1) * 2, none⟩) 1 (cap - (n - 1))]).run Tryd.prog W = .ok (.tuple #[]) W' := fun W ty h => by
    have hl := h.1
    have e0 := h.cellAt ((n - 1) * 2) (by omega)
    have e1 := h.cellAt ((n - 1) * 2 + 1) (by omega)
    have q0 := h.stored ((n - 1) * 2) (.slice none 0 0)
    have q1 := q0.1.stored ((n - 1) * 2 + 1) (.string ⟨#[]⟩)
    refine ⟨_, ?_, q0.2.trans q1.2, run_clear_rule W _ _ ty Tryd.underlying27 Tryd.zeroValue39 g _ _ ?_ ?_ (h.frozenAt _) (h.frozenAt _)⟩
    · have q2 := own_short q1.1 (m := n - 1) (by omega)
      have e : ((((cs.take (i * 2) ++ cs.drop (j * 2) ++ cs.drop (i * 2 + (cs.drop (j * 2)).length)).set ((n - 1) * 2) (.slice none 0 0)).set ((n - 1) * 2 + 1) (.string ⟨#[]⟩)).take ((n - 1) * 2)) = cs.take (i * 2) ++ cs.drop (j * 2) := by
        have hab : (cs.take (i * 2) ++ cs.drop (j * 2)).length = (n - 1) * 2 := by simp; omega
        rw [List.take_set_of_le (by omega), List.take_set_of_le (by omega), ← hab, List.take_left]
      rw [e] at q2
      exact q2
    · rw [e0, List.getElem?_eq_getElem (by omega)]; rfl
    · rw [e1, List.getElem?_eq_getElem (by omega)]; rfl
  have HJ := Lib.hid hj
  have HL := Lib.hid hL
  clear hj hL zl
  by_cases hcj : cap = j
  · rw [if_pos hcj] at hA
    have hA := (Option.some.inj hA).symm
    subst hA
    subst hcj
    obtain rfl : n = cap := by omega
    go_enter Tryd.func58, Tryd.ntmps58
    go_wp2_with fail
    (go_region_law (refine step_own_room rfl (.tmp 22) (.tmp 25) 27 rfl base 39 i0 2 Tryd.underlying27 hi0 hz1 g i n n cs (by simp [Act.eval, Act.put]) ND ⟨g, 0, none⟩ (n - n) (n - n) (cs.drop (n * 2)) (by simp [Act.eval, Act.put]) hl2 hsrc hnews1 (n - 1) HL.out hkm ?_; intro w1 own1 grow1))
    obtain ⟨W', oW, gW, hclr⟩ := hcl w1 0 own1
    try rw [hL1.out] at hclr
    have HO := Lib.hid oW
    have HG := Lib.hid (grown_trans (grown_below (Below.refl w.heap.size w).drew) (grown_trans grow1 gW))
    clear oW gW hcl own1 grow1
    go_wp2
    go_ret
    exact ⟨rfl, HO.out, HG.out⟩
  · rw [if_neg hcj] at hA
    have hA := (Option.some.inj hA).symm
    subst hA
    go_enter Tryd.func58, Tryd.ntmps58
    go_wp2_with fail
    (go_region_law (refine step_own_room rfl (.tmp 22) (.tmp 25) 27 rfl base 39 i0 2 Tryd.underlying27 hi0 hz1 g i cap n cs (by simp [Act.eval, Act.put]) ND ⟨g, j * 2, none⟩ (n - j) (cap - j) (cs.drop (j * 2)) (by simp [Act.eval, Act.put]) hl2 hsrc hnews1 (i + (n - j)) rfl hkm2 ?_; intro w1 own1 grow1))
    rw [HL.out]
    obtain ⟨W', oW, gW, hclr⟩ := hcl w1 0 own1
    try rw [hL1.out] at hclr
    have HO := Lib.hid oW
    have HG := Lib.hid (grown_trans (grown_below (Below.refl w.heap.size w).drew) (grown_trans grow1 gW))
    clear oW gW hcl own1 grow1
    go_wp2
    go_ret
    exact ⟨rfl, HO.out, HG.out⟩
end Go.Proofs.YtjgcbnngjfchhaaDoor
