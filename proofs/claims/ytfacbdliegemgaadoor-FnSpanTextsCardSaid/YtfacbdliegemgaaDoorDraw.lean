/- Draws: the source of numbers, and the next number. -/
import Derived.Test.YtfacbdliegemgaaDoorZone
import Derived.Test.YtfacbdliegemgaaDoorMix
import Derived.IntWalk
import Derived.Deep.Cut
namespace Go.Proofs.YtfacbdliegemgaaDoor
open Go.ChangeShapes Go.WideShapes Go.ChangeAt Go.RowKit Go.Deep Go.Joins

/-- a slice of bytes, as the list of them -/
def Bytes (w : World) (A : Option Addr) (n c : Nat) (bs : List UInt8) : Prop := n = bs.length ∧ Reads w 1 A n c (bs.map fun b => Value.int .u8 b.toNat)
theorem Bytes.below {w w' : World} {A : Option Addr} {n c : Nat} {bs : List UInt8} (h : Bytes w A n c bs) (hb : Below w.heap.size w w') : Bytes w' A n c bs := ⟨h.1, h.2.below hb⟩
theorem Bytes.at_ {w : World} {A : Option Addr} {n c : Nat} {xs : List UInt8} (h : Bytes w A n c xs) (k : Nat) (hk : k < n) : ∃ b off, A = some ⟨b, off, none⟩ ∧ b < w.heap.size := by
  obtain ⟨b, off, e, hlt, _⟩ := h.2.at_ (by omega)
  exact ⟨b, off, e, hlt⟩
theorem Bytes.el {w : World} {b off n c : Nat} {xs : List UInt8} (h : Bytes w (some ⟨b, off, none⟩) n c xs) (k : Nat) (hk : k < n) :
    ∃ s : UInt8, w.cell? ⟨b, off + k, none⟩ = some (.int .u8 s.toNat) := by
  obtain ⟨b', off', e, _, hc⟩ := h.2.at_ (by omega)
  injection e with e; injection e with e1 e2
  subst e1; subst e2
  have hl : k < xs.length := by rw [← h.1]; exact hk
  exact ⟨xs[k], hc k _ (by simp [hl])⟩

theorem of_lit_wf_u8 {s : Int} (h : (Lit.int .u8 s).wf = true) : 0 ≤ s ∧ s < 256 := by
  have a1 : IntKind.u8.min = 0 := rfl
  have a2 : IntKind.u8.max = 255 := rfl
  simp [Lit.wf, a1, a2] at h
  omega
theorem open_bytes_ {H : Type} {enc : TypeId × Value → H} {P : Program} {w : World} {base : Nat} {spare : Nat → Bool} {held : Bool}
    {t e : TypeId} {v : Value} {r : Reach} {b0 : Nat} {d : DataW H} {p : List MemPlace} (ht : P.underlying t = some (.slice e)) (he : P.underlying e = some (.int .u8)) (hC : P.cellsOf e = 1)
    (hv : Value.okWide P w r b0 t v) (h : DataW.Trod enc P w base spare held t v d p) :
    ∃ (A : Option Addr) (n c : Nat) (xs : List UInt8), v = .slice A n c ∧ Bytes w A n c xs := by
  obtain ⟨A, n, c, el, fuel, rfl, hr, hl, he2⟩ := open_row ht hC (by omega) hv h
  have hex : ∀ i, ∃ s : UInt8, i < n → el i = [.int .u8 s.toNat] := fun i => by
    by_cases hlt : i < n
    · obtain ⟨y, hy⟩ := he2 i hlt
      obtain ⟨s, hs, _, hw⟩ := DataW.trod_int he hy
      have hw2 := of_lit_wf_u8 hw
      refine ⟨UInt8.ofNat s.toNat, fun _ => ?_⟩
      rw [hs, UInt8.toNat_ofNat']
      have : ((s.toNat % 2 ^ 8 : Nat) : Int) = s := by omega
      rw [this]
    · exact ⟨0, fun h => absurd h hlt⟩
  obtain ⟨X, hX⟩ := Classical.axiomOfChoice hex
  refine ⟨A, n, c, (List.range n).map X, rfl, by simp, ?_⟩
  have : ((List.range n).map X).map (fun b : UInt8 => Value.int .u8 b.toNat) = (List.range n).flatMap el := by
    rw [congr_flat (g := fun i => [Value.int .u8 (X i).toNat]) (fun i hi => hX i (by simpa using hi)), List.map_map, List.map_eq_flatMap]
    rfl
  rw [this]
  exact hr
/-- a source: its three cells, of a slice of bytes that lies ahead of it -/
structure SrcAt (w : World) (p : Nat) (A : Option Addr) (n c : Nat) (bs : List UInt8) (at_ seed : Int) : Prop where
  lt : p < w.heap.size
  c0 : w.cell? ⟨p, 0, none⟩ = some (.slice A n c)
  c1 : w.cell? ⟨p, 1, none⟩ = some (.int .i64 at_)
  c2 : w.cell? ⟨p, 2, none⟩ = some (.int .i64 seed)
  f0 : ∀ j, w.frozen? ⟨p, j, none⟩ = false
  s0 : 0 ≤ seed
  s1 : seed < 2147483647
  a0 : 0 ≤ at_
  a1 : at_ ≤ n
  by_ : Bytes w A n c bs
  bl : 0 < n → ∀ b off, A = some ⟨b, off, none⟩ → b < p
def Src (w : World) (p : Nat) : Prop := ∃ A n c bs at_ seed, SrcAt w p A n c bs at_ seed
theorem Reads.same {w w' : World} {size : Nat} {A : Option Addr} {n c : Nat} {xs : List Value} (h : Reads w size A n c xs) (hs : w.heap.size ≤ w'.heap.size) (hb : 0 < n → ∀ b off, A = some ⟨b, off, none⟩ → w'.heap[b]? = w.heap[b]?) : Reads w' size A n c xs :=
  ⟨h.le, h.cap, h.len, fun hn => by
    obtain ⟨b, off, e, hlt, hc⟩ := h.at_ hn
    refine ⟨b, off, e, Nat.lt_of_lt_of_le hlt hs, fun j u hu => ?_⟩
    rw [World.cell?_of_block (w := w) (a := ⟨b, off + j, none⟩) (hb hn b off e)]
    exact hc j u hu⟩
theorem Bytes.block {w : World} {A : Option Addr} {n c : Nat} {xs : List UInt8} (h : Bytes w A n c xs) {w' : World} (hs : w.heap.size ≤ w'.heap.size) (hb : 0 < n → ∀ b off, A = some ⟨b, off, none⟩ → w'.heap[b]? = w.heap[b]?) : Bytes w' A n c xs := ⟨h.1, h.2.same hs hb⟩
theorem SrcAt.below {w w' : World} {p : Nat} {A : Option Addr} {n c : Nat} {bs : List UInt8} {a s : Int} (h : SrcAt w p A n c bs a s) (hb : Below w.heap.size w w') : SrcAt w' p A n c bs a s :=
  ⟨Nat.lt_of_lt_of_le h.lt hb.size, cell_keep hb h.c0, cell_keep hb h.c1, cell_keep hb h.c2, fun j => (hb.frozen (p := ⟨p, j, none⟩) h.lt).trans (h.f0 j), h.s0, h.s1, h.a0, h.a1, h.by_.below hb, h.bl⟩
theorem Src.below {w w' : World} {p : Nat} (h : Src w p) (hb : Below w.heap.size w w') : Src w' p := by
  obtain ⟨A, n, c, bs, a, s, h⟩ := h
  exact ⟨A, n, c, bs, a, s, h.below hb⟩
theorem SrcAt.seed {w : World} {p : Nat} {A : Option Addr} {n c : Nat} {bs : List UInt8} {a s : Int} (h : SrcAt w p A n c bs a s) (v : Int) (h0 : 0 ≤ v) (h1 : v < 2147483647) : SrcAt (w.setCell ⟨p, 2, none⟩ (.int .i64 v)) p A n c bs a v := by
  have hg := grown_set w p 2 (.int .i64 v)
  have hne : 0 < n → ∀ b off, A = some ⟨b, off, none⟩ → (w.setCell ⟨p, 2, none⟩ (.int .i64 v)).heap[b]? = w.heap[b]? := fun hn b off e => Below.heap_setCell _ _ _ b (by have := h.bl hn b off e; simp only; omega)
  refine ⟨Nat.lt_of_lt_of_le h.lt hg.size, ?_, ?_, World.cell?_setCell_same (w := w) (a := ⟨p, 2, none⟩) (v := .int .i64 v) h.c2, fun j => by rw [World.frozen?_setCell]; exact h.f0 j, h0, h1, h.a0, h.a1, h.by_.block hg.size hne, h.bl⟩
  · rw [World.cell?_setCell_other (w := w) (a := ⟨p, 2, none⟩) (b := ⟨p, 0, none⟩) (v := .int .i64 v) (by simp)]; exact h.c0
  · rw [World.cell?_setCell_other (w := w) (a := ⟨p, 2, none⟩) (b := ⟨p, 1, none⟩) (v := .int .i64 v) (by simp)]; exact h.c1
theorem SrcAt.step {w : World} {p : Nat} {A : Option Addr} {n c : Nat} {bs : List UInt8} {a s : Int} (h : SrcAt w p A n c bs a s) (v : Int) (h0 : 0 ≤ v) (h1 : v ≤ n) : SrcAt (w.setCell ⟨p, 1, none⟩ (.int .i64 v)) p A n c bs v s := by
  have hg := grown_set w p 1 (.int .i64 v)
  have hne : 0 < n → ∀ b off, A = some ⟨b, off, none⟩ → (w.setCell ⟨p, 1, none⟩ (.int .i64 v)).heap[b]? = w.heap[b]? := fun hn b off e => Below.heap_setCell _ _ _ b (by have := h.bl hn b off e; simp only; omega)
  refine ⟨Nat.lt_of_lt_of_le h.lt hg.size, ?_, World.cell?_setCell_same (w := w) (a := ⟨p, 1, none⟩) (v := .int .i64 v) h.c1, ?_, fun j => by rw [World.frozen?_setCell]; exact h.f0 j, h.s0, h.s1, h0, h1, h.by_.block hg.size hne, h.bl⟩
  · rw [World.cell?_setCell_other (w := w) (a := ⟨p, 1, none⟩) (b := ⟨p, 0, none⟩) (v := .int .i64 v) (by simp)]; exact h.c0
  · rw [World.cell?_setCell_other (w := w) (a := ⟨p, 1, none⟩) (b := ⟨p, 2, none⟩) (v := .int .i64 v) (by simp)]; exact h.c2

set_option maxRecDepth 100000 in
set_option maxHeartbeats 2000000 in
theorem l01From_any (A : Option Addr) (n c : Nat) (bs : List UInt8) (w : World) (hx : Bytes w A n c bs) :
    Calls Tryd.prog 46 #[.slice A n c] w fun e w' => e = .returned (.pointer (some ⟨w.heap.size, 0, none⟩)) ∧ Src w' w.heap.size ∧ Below w.heap.size w w' := by
  have ha : 0 < n → ∀ b off, A = some ⟨b, off, none⟩ → b < w.heap.size := fun h b off e => by
    obtain ⟨b', off', e', hl⟩ := hx.at_ 0 h
    rw [e] at e'
    injection e' with e'
    injection e' with e1 _
    omega
  have hcm := hx.2.cap
  have hnc := hx.2.le
  unfold maxLen at hcm
  go_enter Tryd.func46, Tryd.ntmps46
  go_wp2
  have S0 : SrcAt (w.alloc (.cells #[.slice A n c, .int .i64 0, .int .i64 51031] 79)) w.heap.size A n c bs 0 51031 := by
    have B := (Below.refl w.heap.size w).alloc (Nat.le_refl _) (.cells #[.slice A n c, .int .i64 0, .int .i64 51031] 79)
    exact ⟨by simp, by go_simp, by go_simp, by go_simp, fun j => by go_simp, by omega, by omega, by omega, by omega, hx.below B, ha⟩
  have B0 := (Below.refl w.heap.size w).alloc (Nat.le_refl _) (.cells #[.slice A n c, .int .i64 0, .int .i64 51031] 79)
  go_loopw [4] (fun i wr => ∃ (k : Nat) (s : Int), k ≤ n ∧ i = .int .i64 k ∧ Hid (SrcAt wr w.heap.size A n c bs 0 s) ∧ Below w.heap.size w wr) (fun i _ => n - (intOf i).toNat)
  case atStart => exact ⟨0, 51031, Nat.zero_le _, rfl, S0, B0⟩
  case round =>
    clear S0 B0
    obtain ⟨k, s, hk, rfl, hs, hb⟩ := hrel
    by_cases hlt : k < n
    · by_cases h64 : k < 64
      · obtain ⟨b, off, rfl, hbl⟩ := hx.at_ k hlt
        obtain ⟨u, hu⟩ := hs.out.by_.el k hlt
        have hu2 : u.toNat < 256 := u.toNat_lt
        have c2 := hs.out.c2
        have f2 := hs.out.f0 2
        have s0 := hs.out.s0
        have s1 := hs.out.s1
        have hpl := hs.out.lt
        have hbp := hs.out.bl (by omega) b off rfl
        have hbw : b < wr.heap.size := by omega
        have e1 : IntKind.i64.wrap (s * 73) = s * 73 := IntWalk.i64_in _ (by omega)
        have e2 : IntKind.i64.wrap (s * 73 + u.toNat) = s * 73 + u.toNat := IntWalk.i64_in _ (by omega)
        have e3 : (s * 73 + (u.toNat : Int)).tmod 2147483647 = (s * 73 + u.toNat) % 2147483647 := Int.tmod_eq_emod_of_nonneg (by omega)
        have v0 : 0 ≤ (s * 73 + (u.toNat : Int)) % 2147483647 := by omega
        have v1 : (s * 73 + (u.toNat : Int)) % 2147483647 < 2147483647 := by omega
        have hj0 : (0 : Int) ≤ (k : Int) := Int.natCast_nonneg _
        have hj1 : (k : Int) < (n : Int) := by omega
        go_wp2
        refine wp_region_tail 0 15 (by kernel_rfl) (by kernel_rfl) (fun _ _ _ _ h => h) ?_
        simp only [List.take_succ_cons, List.take_zero, List.drop_succ_cons, List.drop_zero]
        repeat (go_big_quiet_step (fail))
        refine wpQuiet_nil ?_
        intro w2 hw2; have h2 := later_below hw2; clear hw2
        have hc_w2 := bcell h2; have hf_w2 := bfree h2
        have hz_w2_0 : w.heap.size < w2.heap.size := by have hz_ := h2.size; (try simp at hz_); omega
        have HS := Lib.hid ((hs.out.below h2).seed ((s * 73 + (u.toNat : Int)) % 2147483647) v0 v1)
        have HB := Lib.hid ((hb.trans (h2.mono hb.size)).setCell (p := ⟨w.heap.size, 2, none⟩) (Nat.le_refl _) (.int .i64 ((s * 73 + (u.toNat : Int)) % 2147483647)))
        clear hs
        go_wp2
        go_roundw
        case rel => exact ⟨k + 1, _, by omega, by go_num, HS, HB.out⟩
        case measure => simp [intOf]; omega
      · go_wp2
        go_ret
        exact ⟨rfl, ⟨_, _, _, _, _, _, hs.out⟩, hb⟩
    · go_wp2
      go_ret
      exact ⟨rfl, ⟨_, _, _, _, _, _, hs.out⟩, hb⟩

/-- what a draw returns: a number below n (0 if n is 1 or less); the source is a source still, and nothing else has changed -/
def NextPost (p : Nat) (n : Int) (w : World) (e : Ending) (w' : World) : Prop := ∃ r : Int, e = .returned (.int .i64 r) ∧ 0 ≤ r ∧ (r < n ∨ r = 0) ∧ Src w' p ∧ w.grownBy w' (some p)
set_option maxRecDepth 100000 in
set_option maxHeartbeats 4000000 in
theorem l01Next_any (p : Nat) (n : Int) (w : World) (h : Src w p) (hn : n ≤ 4611686018427387904) :
    Calls Tryd.prog 47 #[.pointer (some ⟨p, 0, none⟩), .int .i64 n] w (NextPost p n w) := by
  by_cases hn1 : n ≤ 1
  · go_enter Tryd.func47, Tryd.ntmps47
    go_wp2
    go_ret
    exact ⟨0, rfl, by omega, .inr rfl, h, grown_refl _ _⟩
  · obtain ⟨A, N, c, bs, a, s, S⟩ := h
    have c0 := S.c0
    have c1 := S.c1
    have c2 := S.c2
    have f1 := S.f0 1
    have f2 := S.f0 2
    have s0 := S.s0
    have s1 := S.s1
    have hpl := S.lt
    have a0 := S.a0
    have a1 := S.a1
    have hNm := S.by_.2.cap
    have hNc := S.by_.2.le
    unfold maxLen at hNm
    have v0 : 0 ≤ (s * 48271 + 29) % 2147483647 := by omega
    have v1 : (s * 48271 + 29) % 2147483647 < 2147483647 := by omega
    have HS := Lib.hid (S.seed ((s * 48271 + 29) % 2147483647) v0 v1)
    have HG := Lib.hid (grown_set w p 2 (.int .i64 ((s * 48271 + 29) % 2147483647)))
    go_enter Tryd.func47, Tryd.ntmps47
    go_upto_region 5 with fail
    generalize (s * 48271 + 29) % 2147483647 = v at *
    have S1 := HS.out
    have G1 := HG.out
    clear c0 c1 c2 f1 f2 S HS HG s0 s1 hpl
    generalize w.setCell ⟨p, 2, none⟩ (.int .i64 v) = W at *
    have d0 := S1.c0
    have d1 := S1.c1
    have f1 := S1.f0 1
    have hpl := S1.lt
    by_cases ha : a < N
    · obtain ⟨k, rfl⟩ : ∃ k : Nat, a = k := ⟨a.toNat, by omega⟩
      have hk : k < N := by omega
      obtain ⟨b, off, rfl, hbl⟩ := S1.by_.at_ k hk
      obtain ⟨u, hu⟩ := S1.by_.el k hk
      have hu2 : u.toNat < 256 := u.toNat_lt
      have e1 : IntKind.i64.wrap (v / 31 + (u.toNat : Int)) = v / 31 + u.toNat := IntWalk.i64_in _ (by omega)
      refine wp_region_later (by kernel_rfl) (by kernel_rfl) ?_
      repeat (go_big_quiet_step (fail))
      refine wpQuiet_nil ?_
      intro w2 hw2; have h2 := later_below hw2; clear hw2
      have hc_w2 := bcell h2; have hf_w2 := bfree h2
      have hz_w2_0 : p < w2.heap.size := by have hz_ := h2.size; (try simp at hz_); omega
      have hz_w2_1 : b < w2.heap.size := by have hz_ := h2.size; (try simp at hz_); omega
      go_wp2_with fail
      refine wp_region_later (by kernel_rfl) (by kernel_rfl) ?_
      repeat (go_big_quiet_step (fail))
      refine wpQuiet_nil ?_
      intro w3 hw2; have h3 := later_below hw2; clear hw2
      have hc_w3 := bcell h3; have hf_w3 := bfree h3
      have hz_w3_0 : p < w3.heap.size := by have hz_ := h3.size; (try simp at hz_); omega
      have hz_w3_1 : b < w3.heap.size := by have hz_ := h3.size; (try simp at hz_); omega
      have S3 := (S1.below h2).below h3
      have HS4 := Lib.hid (S3.step ((k : Int) + 1) (by omega) (by omega))
      have HG4 := Lib.hid (grown_trans (grown_trans (grown_trans G1 (grown_below h2)) (grown_below h3)) (grown_set w3 p 1 (.int .i64 ((k : Int) + 1))))
      clear S1 S3 G1
      by_cases h256 : n ≤ 256
      · by_cases hev : ((k : Int) + 1) % 2 = 0
        · go_upto_region 9 with fail
          generalize hW4 : w3.setCell ⟨p, 1, none⟩ (.int .i64 ((k : Int) + 1)) = W4 at *
          clear hW4
          have S4 := HS4.out
          have G4 := HG4.out
          have k0 := S4.c0
          have k1 := S4.c1
          have hp4 := S4.lt
          obtain ⟨u2, hu3⟩ := S4.by_.el k hk
          have hb4 : b < W4.heap.size := Nat.lt_trans (S4.bl (by omega) b off rfl) hp4
          have hu4 : u2.toNat < 256 := u2.toNat_lt
          have e2 : IntKind.i64.wrap ((k : Int) + 1 - 1) = k := by rw [IntWalk.i64_in _ (by omega)]; omega
          have e3 : (k : Int) + 1 - 1 = k := by omega
          clear HS4 HG4
          refine wp_region_later (by kernel_rfl) (by kernel_rfl) ?_
          repeat (go_big_quiet_step (fail))
          refine wpQuiet_nil ?_
          intro w5 hw2; have h5 := later_below hw2; clear hw2
          have hc_w5 := bcell h5; have hf_w5 := bfree h5
          have hz_w5_0 : p < w5.heap.size := by have hz_ := h5.size; (try simp at hz_); omega
          have hz_w5_1 : b < w5.heap.size := by have hz_ := h5.size; (try simp at hz_); omega
          have S5 := S4.below h5
          have G5 := grown_trans G4 (grown_below h5)
          go_wp2
          go_ret
          exact ⟨_, rfl, Int.emod_nonneg _ (by omega), .inl (Int.emod_lt_of_pos _ (by omega)), ⟨_, _, _, _, _, _, S5⟩, G5⟩
        · have hod : ((k : Int) + 1) % 2 = 1 := by omega
          go_wp2
          go_ret
          exact ⟨_, rfl, Int.emod_nonneg _ (by omega), .inl (Int.emod_lt_of_pos _ (by omega)), ⟨_, _, _, _, _, _, HS4.out⟩, HG4.out⟩
      · go_wp2
        go_ret
        exact ⟨_, rfl, Int.emod_nonneg _ (by omega), .inl (Int.emod_lt_of_pos _ (by omega)), ⟨_, _, _, _, _, _, HS4.out⟩, HG4.out⟩
    · obtain rfl : a = N := by omega
      refine wp_region_later (by kernel_rfl) (by kernel_rfl) ?_
      repeat (go_big_quiet_step (fail))
      refine wpQuiet_nil ?_
      intro w2 hw2; have h2 := later_below hw2; clear hw2
      have hc_w2 := bcell h2; have hf_w2 := bfree h2
      have hz_w2_0 : p < w2.heap.size := by have hz_ := h2.size; (try simp at hz_); omega
      have S2 := S1.below h2
      have G2 := grown_trans G1 (grown_below h2)
      go_wp2
      go_ret
      exact ⟨_, rfl, Int.emod_nonneg _ (by omega), .inl (Int.emod_lt_of_pos _ (by omega)), ⟨_, _, _, _, _, _, S2⟩, G2⟩
end Go.Proofs.YtfacbdliegemgaaDoor
