/- Tables of rules copied: cloneTable. -/
import Derived.Test.YtjgcbnngjfchhaaDoorClone
import Derived.Test.YtjgcbnngjfchhaaDoorHarnR
import Derived.Test.YtjgcbnngjfchhaaDoorMrgA
import Derived.Maps.AppendAt
import Derived.Deep.RegionLaw
namespace Go.Proofs.YtjgcbnngjfchhaaDoor
open Go.ChangeShapes Go.WideShapes Go.ChangeAt Go.RowKit
section
variable {P : Program} {w : World}
/-- an append onto a row of the call's own, where a region draws its order; with the block it lies in -/
theorem step_own_in {ops : Array Oper} {o : Oper} {a : Act} {K : Act → World → Prop} {Q : Exit → Act → World → Prop} {E : Prop} (hgd : o.guard = none) (s x : Operand) (t : TypeId)
    (ho : o.op = .call { callee := .builtin .append, args := #[s, x], argTypes := #[t, t] })
    (base : Nat) (e : TypeId) (i : TypeInfo) (z : Value) (size bytes : Nat) (ht : P.underlying t = some (.slice e)) (hi : P.info? e = some i) (hz : i.zero = some z)
    (hsize : i.size = size) (hby : i.bytes = bytes) (hzs : z.cells.size = size) (hsz : 0 < size)
    (v : Value) (n : Nat) (xs : List Value) (hs : a.eval s = v) (hown : w.ownsRow base e size v n xs)
    (ad : Addr) (m c : Nat) (news : List Value) (hx : a.eval x = .slice (some ad) m c) (hl : news.length = m * size) (hnews : ∀ j u, news[j]? = some u → w.cell? (ad.add j) = some u) (h1 : ∀ u ∈ news, u.oneCell' = true)
    (h63 : n + m ≤ maxLen) (hbytes : (n + m) * bytes ≤ 140737488355328) (hbase : base ≤ w.heap.size)
    (h : ∀ v' w', w'.ownsRow base e size v' (n + m) (xs ++ news) → w.grownBy w' v.ownBlock → (v'.ownBlock = v.ownBlock ∨ v'.ownBlock = some w.heap.size) → K (a.put o.dst v') w') :
    if Region.wanted o (yielded ops a.tmps) = true then Oper.wp P o a w K Q else E := by
  have hw : Region.wanted o (yielded ops a.tmps) = true := by unfold Region.wanted; rw [hgd]
  rw [if_pos hw]
  obtain ⟨v', w', hr, h2, h3, _, h5⟩ := run_append_own_at (P := P) w base t o.type e i z size bytes ht hi hz hsize hby hzs hsz v n xs hown ad m c news hl hnews h1 h63 hbytes hbase
  unfold Oper.wp execOp
  simp only [ho, resolve, invoke, builtin, Sem.run_bind, Sem.run_pure, Result.andThen_ok, List.map_toArray, List.map_cons, List.map_nil, hs, hx, hr]
  exact h v' w' h2 h3 h5
end
theorem cell_two_new (w : World) (a b : Value) (e : TypeId) : ∀ j u, [a, b][j]? = some u → (w.alloc (.cells #[a, b] e)).cell? ((⟨w.heap.size, 0, none⟩ : Addr).add j) = some u := fun j u hu => by
  match j, hu with
  | 0, hu => injection hu with hu; subst hu; simp [Addr.add]
  | 1, hu => injection hu with hu; subst hu; simp [Addr.add]
theorem OwnR.nil (w : World) (base : Nat) : OwnR w base w.heap.size (.slice none 0 0) 0 [] [] :=
  ⟨rfl, rfl, World.ownsRow_nil _ _ _ _, fun i u r h => by simp at h, fun i u k h => by simp at h, fun k h => by simp [Value.ownBlock] at h, fun i j u u' k h => by simp at h⟩
theorem OwnR.snoc {w w2 w3 : World} {base n : Nat} {v v3 u : Value} {T : List Rl} {vs : List Value} {r : Rl} (h : OwnR w base w.heap.size v n T vs) (hb : Below w.heap.size w w2)
    (hu : w2.ownsRow w.heap.size 2 1 u r.1.length (r.1.map (Value.int .i64))) (hz : r.2.size ≤ maxLen) (hg : w2.grownBy w3 v.ownBlock) (hat : v3.ownBlock = v.ownBlock ∨ v3.ownBlock = some w2.heap.size)
    (hrow : w3.ownsRow base 39 2 v3 (n + 1) (rcells vs T ++ [u, .string r.2])) (hbase : base ≤ w.heap.size) : OwnR w3 base w3.heap.size v3 (n + 1) (T ++ [r]) (vs ++ [u]) := by
  have hs2 := hb.size
  have hs3 : w2.heap.size ≤ w3.heap.size := hg.size
  have at_ : ∀ (i : Nat) x, (vs ++ [u])[i]? = some x → (i < n ∧ vs[i]? = some x) ∨ (i = n ∧ x = u) := fun i x hi => by
    rcases Nat.lt_or_ge i vs.length with h1 | h1
    · rw [List.getElem?_append_left h1] at hi; exact .inl ⟨by rw [← h.vlen]; exact h1, hi⟩
    · rw [List.getElem?_append_right h1] at hi
      have h2 := (List.getElem?_eq_some_iff.1 hi).1
      simp at h2
      have h3 : i = vs.length := by omega
      subst h3
      simp at hi
      exact .inr ⟨h.vlen, hi.symm⟩
  have ublk : ∀ k, u.ownBlock = some k → w.heap.size ≤ k ∧ k < w2.heap.size := fun k hk => hu.lt k hk
  have vblk : ∀ k, v.ownBlock = some k → k < w.heap.size := h.vlo
  refine ⟨by simp [h.len], by simp [h.vlen], ?_, fun i x q h1 h2 => ?_, fun i x k h1 h2 => ?_, fun k hk => (hrow.lt k hk).2, fun i j x y k h1 h2 h3 h4 => ?_⟩
  · rw [rcells_snoc _ _ (by rw [h.vlen, h.len])]; exact hrow
  · rcases at_ i x h1 with ⟨hi, g1⟩ | ⟨e1, e2⟩
    · rw [List.getElem?_append_left (by rw [h.len]; exact hi)] at h2
      obtain ⟨a1, a2⟩ := h.sg i x q g1 h2
      exact ⟨own_far (own_below a1 hb) hg (fun k hk e => (h.lo i x k g1 hk).2 e), a2⟩
    · subst e1; subst e2
      rw [List.getElem?_append_right (by rw [h.len]; exact Nat.le_refl _), h.len] at h2
      simp at h2
      subst h2
      exact ⟨own_mono' (own_far hu hg (fun k hk e => by have := ublk k hk; have := vblk k e; omega)) hbase, hz⟩
  · rcases at_ i x h1 with ⟨hi, g1⟩ | ⟨e1, e2⟩
    · have h5 := h.lo i x k g1 h2
      refine ⟨by omega, fun e => ?_⟩
      rcases hat with hat | hat
      · rw [hat] at e; exact h5.2 e
      · rw [hat] at e; injection e with e; omega
    · subst e2
      have h5 := ublk k h2
      refine ⟨by omega, fun e => ?_⟩
      rcases hat with hat | hat
      · rw [hat] at e; have := vblk k e; omega
      · rw [hat] at e; injection e with e; omega
  · rcases at_ i x h1 with ⟨hi, g1⟩ | ⟨e1, e2⟩
    · rcases at_ j y h2 with ⟨hj, g2⟩ | ⟨e3, e4⟩
      · exact h.apart i j x y k g1 g2 h3 h4
      · have := (h.lo i x k g1 h3).1
        rw [e4] at h4
        have := ublk k h4
        omega
    · rcases at_ j y h2 with ⟨hj, g2⟩ | ⟨e3, e4⟩
      · have := (h.lo j y k g2 h4).1
        rw [e2] at h3
        have := ublk k h3
        omega
      · omega
set_option maxRecDepth 100000 in
set_option maxHeartbeats 2000000 in
theorem cloneTable_any (A : Option Addr) (n c : Nat) (T : List Rl) (w : World) (hx : Rules w A n c T) (hn : n ≤ 1048576) (hs : ∀ (k : Nat) xs r, T[k]? = some (xs, r) → xs.length ≤ 1048576) :
    Calls Tryd.prog 46 #[.slice A n c] w fun e w' => ∃ v, e = .returned v ∧ OwnRules w' w.heap.size w'.heap.size v n T ∧ Below w.heap.size w w' := by
  have hcm := hx.cap.2
  have hnc := hx.cap.1
  have HX := Lib.hid hx.1
  unfold maxLen at hcm
  obtain ⟨i0, hi, hz0, hz1, hz2⟩ := info_parts infoRule
  go_enter Tryd.func46, Tryd.ntmps46
  go_wp2
  go_loopw [3, 8] (fun v i wr => ∃ (k : Nat) (vs : List Value), k ≤ n ∧ i = .int .i64 k ∧ Hid (OwnR wr w.heap.size wr.heap.size v k (T.take k) vs) ∧ Below w.heap.size w wr) (fun _ i _ => n - (intOf i).toNat)
  case atStart => exact ⟨0, [], Nat.zero_le _, rfl, OwnR.nil _ _, Below.refl _ _⟩
  case round =>
    obtain ⟨k, vs, hk, rfl, hown, hb⟩ := hrel
    by_cases hlt : k < n
    · obtain ⟨b, off, rfl, hbl⟩ := hx.at_ k hlt
      obtain ⟨B', m', d', xs, r, hTk, c0, c1, hz, hrz⟩ := hx.el hb k hlt
      have hm' : m' ≤ 1048576 := by have := hs k xs r hTk.out; have := hz.1; omega
      have hbw : b < wr.heap.size := Nat.lt_of_lt_of_le hbl hb.size
      go_wp2_with fail
      have hv := hown.out.row
      have NB := own_below (own_below hv (box1C wr (.cells #[.slice B' m' d', .string r] 39))) (Below.refl _ _).drew
      have HB := (box1C wr (.cells #[.slice B' m' d', .string r] 39)).drew
      have hzD := hz.below HB
      have hcl := clone_any B' m' d' xs _ hzD hm'
      have zc : (wr.alloc (.cells #[.slice B' m' d', .string r] 39)).drew.cell? ⟨wr.heap.size, 1, none⟩ = some (.string r) := by first | (go_simp; done) | simp
      (go_region_law (first
        | (refine step_own_in rfl _ _ 27 rfl w.heap.size 39 i0 (.agg #[.slice none 0 0, .string ⟨#[]⟩]) 2 40 Tryd.underlying27 hi hz0 hz1 hz2 rfl (by decide) _ _ _ rfl (N5.alloc _) ⟨w5.heap.size, 0, none⟩ 1 1 [.slice Au m' cu, .string r] rfl rfl (cell_two_new _ _ _ _) (by simp [Value.oneCell']) (by unfold maxLen; omega) (by omega) (by simp; omega) ?_; intro v6 w6 own6 grow6 hlie)
        | (go_simp; go_at_call 48; refine hcl.mono ?_; rintro e_ w5 ⟨u, rfl, hu, h5⟩; have hu' := own_ints_ hu; obtain ⟨Au, cu, rfl, xu⟩ := hu'; have N5 := own_below NB h5; have hz5 := (show w.heap.size ≤ w5.heap.size from Nat.le_trans hb.size (Nat.le_trans HB.size h5.size)); have z1 := cell_keep h5 zc)))
      all_goals
        have HB5 := (next HB h5).alloc (Nat.le_trans HB.size h5.size) (.cells #[.slice Au m' cu, .string r] 39)
        have F := hown.out.snoc (u := .slice Au m' cu) (r := (xs, r)) HB5 (own_mono' (own_below (by rw [← hz.1]; exact hu) (box1C w5 _)) HB.size) hrz grow6 hlie own6 hb.size
        rw [← take_rl hTk.out] at F
        have HO := Lib.hid F
        have HB6 := Lib.hid ((next hb HB5).grown grow6 (Nat.le_trans hb.size HB5.size) (fun q hq => (hv.lt q hq).1))
        clear F HB5 own6 grow6 hlie hu N5 z1 h5 hown
        go_wp2
        go_roundw
        case rel => exact ⟨k + 1, _, by omega, by go_num, HO, HB6.out⟩
        case measure => simp [intOf]; omega
    · obtain rfl : k = n := by omega
      have HF := hown.out
      rw [List.take_of_length_le (by have := HX.out; omega)] at HF
      have HF := Lib.hid HF
      clear hown
      go_wp2
      go_ret
      exact ⟨_, rfl, ⟨_, HF.out⟩, hb⟩
end Go.Proofs.YtjgcbnngjfchhaaDoor
