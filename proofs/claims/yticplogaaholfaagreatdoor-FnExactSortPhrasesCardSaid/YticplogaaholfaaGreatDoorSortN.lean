/- SortPhrases of the program. -/
import Derived.Test.YticplogaaholfaaGreatDoorStabS
namespace Go.Proofs.YticplogaaholfaaGreatDoor
open Go.ChangeShapes Go.WideShapes Go.ChangeAt Go.RowKit
theorem own_low {w : World} {base base' : Nat} {e : TypeId} {size : Nat} {v : Value} {n : Nat} {xs : List Value} (h : w.ownsRow base e size v n xs) (hb : base' ≤ base) : w.ownsRow base' e size v n xs :=
  ⟨h.1, h.2.imp id fun ⟨g, cap, cur, a, b, r⟩ => ⟨g, cap, cur, a, Nat.le_trans hb b, r⟩⟩
theorem valuesS_any (a : Option Addr) (len cap : Nat) (w : World) :
    Calls Tryz.prog 30 #[.slice a len cap] w fun e w' => e = .returned (.func (.func 56) #[] #[.pointer (some ⟨w.heap.size, 0, none⟩)]) ∧ w' = w.alloc (.cells #[.slice a len cap] 22) :=
  (callsIn_wide (n := 1)).1 (valuesS_in Fence.wide 1 trivial rfl a len cap w)
set_option maxRecDepth 100000 in
set_option maxHeartbeats 2000000 in
theorem sorted_any (A B : Option Addr) (n c m d Bs b off cap : Nat) (xs : List ByteArray) (ig : List Int) (ps : List ByteArray) (w0 w : World) (hb0 : Below w0.heap.size w0 w) (hx : Strs w0 A n c xs) (hy : Ints w0 B m d ig) (hm : MaxCell w0) (ha : isAlpha xs = true) (hq : ps.length ≤ 20) (hs : ∀ s ∈ ps, s.size ≤ 1048576) (hph : ps.all isPhrase = true) (hsp : ps.all (spAll xs) = true)
    (hBs : Bs < w.heap.size) (hbw : b < w.heap.size) (hc : w.cell? ⟨Bs, 0, none⟩ = some (.slice (some ⟨b, off, none⟩) ps.length cap)) (hI : ∀ j, j < ps.length → w.cell? ⟨b, off + j, none⟩ = some (.string (ps[j]?.getD ⟨#[]⟩))) :
    Calls Tryz.prog 29 #[.func (.func 56) #[] #[.pointer (some ⟨Bs, 0, none⟩)], .func (.func 31) #[.agg #[.slice A n c, .slice B m d]] #[]] w fun e w' => ∃ v, e = .returned v ∧ w'.ownsRow w.heap.size 9 1 v ps.length ((srt xs ig ps ps.length).map Value.string) ∧ Below w.heap.size w w' := by
  have h1 := collectS_any Bs b off cap ps (by omega) w hBs hbw hc hI
  have H2 := Lib.hid (fun W v h1 h2 h3 => sortStable_any A B n c m d ps.length w.heap.size v xs ig ps w0 W h1 h2 hb0.size h3 hx hy hm ha hq hs hph hsp)
  clear hc hI hx hy hm ha hs hph hsp
  go_enter Tryz.func29, Tryz.ntmps29
  go_wp2_with fail
  refine h1.mono ?_
  rintro e_ w1 ⟨v, rfl, o1, k1⟩
  clear h1
  have h2 := H2.out w1 v o1 (hb0.trans (k1.mono hb0.size)) k1.size
  clear H2
  go_wp2_with fail
  refine h2.mono ?_
  rintro e_ w2 ⟨⟨z, rfl⟩, o2, k2⟩
  clear h2
  go_wp2
  go_ret
  exact ⟨v, rfl, o2, k1.trans k2⟩
/-- what SortPhrases answers -/
def spVal (xs : List ByteArray) (ig : List Int) (ps : List ByteArray) : List ByteArray := if l6Code xs ig ps = 0 then srt xs ig ps ps.length else []
set_option maxRecDepth 100000 in
set_option maxHeartbeats 2000000 in
theorem SortPhrases_impl (A B : Option Addr) (n c m d b off q f : Nat) (xs : List ByteArray) (ig : List Int) (ps : List ByteArray) (w : World) (hx : Strs w A n c xs) (hy : Ints w B m d ig) (hp : Strs w (some ⟨b, off, none⟩) q f ps) (hs : ∀ s ∈ ps, s.size ≤ 1048576) (hbw : b < w.heap.size) (hm : MaxCell w) :
    Calls Tryz.prog 9 #[.slice A n c, .slice (some ⟨b, off, none⟩) q f, .slice B m d] w fun e w' => ∃ v, e = .returned (.tuple #[v, .int .i64 (l6Code xs ig ps)]) ∧ w'.ownsRow w.heap.size 9 1 v (spVal xs ig ps).length ((spVal xs ig ps).map Value.string) ∧ Below w.heap.size w w' := by
  obtain ⟨k, hk⟩ : ∃ k, l6Code xs ig ps = k := ⟨_, rfl⟩
  have h1 := listSorter_any A B (some ⟨b, off, none⟩) n c m d q f xs ig ps w hx hy hp hs hm
  rw [hk] at h1
  have HK := Lib.hid hk
  by_cases h0 : k = 0
  · subst h0
    obtain ⟨ha, hph, hsp, hq⟩ := l6_zero hk
    have HF := Lib.hid (show spVal xs ig ps = srt xs ig ps ps.length by unfold spVal; rw [if_pos hk])
    have HI := Lib.hid (fun W (hW : Below w.heap.size w W) j (hj : j < ps.length) => show World.cell? W ⟨b, off + j, none⟩ = some (.string (ps[j]?.getD ⟨#[]⟩)) from by
      obtain ⟨s, hs1, hs2, _⟩ := hp.el (wr := W) hW hbw j (by rw [hp.1]; exact hj)
      first | (rw [hs1.out]; exact hs2) | (rw [hs2]; exact hs1) | (rw [hs1]; exact hs2) | exact 7)
    have HC := Lib.hid (fun W Bs h0 h1 h2 h3 h4 => sorted_any A B n c m d Bs b off f xs ig ps w W h0 hx hy hm ha hq hs hph hsp h1 h2 h3 h4)
    have hql := hp.1
    clear hk hs hp
    subst hql
    go_enter Tryz.func9, Tryz.ntmps9
    go_wp2_with fail
    refine h1.mono ?_
    rintro e_ w1 ⟨A', n', c', B', m', d', rfl, hv, k1⟩
    obtain ⟨rfl, rfl, rfl, rfl, rfl, rfl⟩ := hv (by simp)
    clear h1
    have hB := next k1 (boxO w1 (.cells #[.slice A' n' c', .slice B' m' d'] 50))
    have hBD : Below w.heap.size w ((w1.alloc (.cells #[.slice A' n' c', .slice B' m' d'] 50)).alloc (.cells #[.slice (some ⟨b, off, none⟩) ps.length f] 22)).drew := (next hB (boxO _ _)).drew
    have hz1 := k1.size
    have h2 := HC.out _ (w1.heap.size + 1) hBD (by simp) (by simp; omega) (by simp) (HI.out _ hBD)
    have hzD := hBD.size
    clear HC HI
    go_wp2_with fail
    go_region_law (first
      | (go_simp; go_at_call 30; refine (valuesS_any _ _ _ _).mono ?_; rintro e_ w3 ⟨rfl, rfl⟩)
      | (go_simp; go_at_call 29; refine h2.mono ?_; rintro e_ w5 ⟨v5, rfl, o5, k5⟩))
    all_goals
      clear h2
      go_wp2
      go_ret2
      exact ⟨v5, by rw [HK.out]; rfl, by rw [HF.out, srt_len]; exact own_low o5 hzD, next hBD k5⟩
  · have HF := Lib.hid (show spVal xs ig ps = [] by unfold spVal; rw [hk, if_neg h0])
    have hne : (k != 0) = true := by rw [bne_iff_ne]; exact h0
    clear hk
    go_enter Tryz.func9, Tryz.ntmps9
    go_wp2_with fail
    refine h1.mono ?_
    rintro e_ w1 ⟨A', n', c', B', m', d', rfl, hv, k1⟩
    clear h1
    go_wp2
    go_ret2
    exact ⟨_, by rw [HK.out]; rfl, by rw [HF.out]; exact World.ownsRow_nil _ _ _ _, next k1 (boxO _ _)⟩
end Go.Proofs.YticplogaaholfaaGreatDoor
