/- A slice of integers copied: slices.Clone. -/
import Derived.Test.YtpnbbhomkneflaaGreatDoorMrgA
import Derived.Lib.SliceRun
namespace Go.Proofs.YtpnbbhomkneflaaGreatDoor
open Go.ChangeShapes Go.WideShapes Go.ChangeAt Go.RowKit
theorem box1C (w : World) (x : Obj) : Below w.heap.size w (w.alloc x) := (Below.refl _ _).alloc (Nat.le_refl _) _
set_option maxRecDepth 100000 in
set_option maxHeartbeats 1000000 in
theorem clone_any (A : Option Addr) (n c : Nat) (xs : List Int) (w : World) (hx : Ints w A n c xs) (hn : n ≤ 1048576) :
    Calls Tryz.prog 69 #[.slice A n c] w fun e w' => ∃ v, e = .returned v ∧ w'.ownsRow w.heap.size 2 1 v n (xs.map (Value.int .i64)) ∧ Below w.heap.size w w' := by
  obtain ⟨i0, hi, hz0, hz1, hz2⟩ := info_parts infoInt
  have hcm := hx.2.cap
  have hnc := hx.2.le
  unfold maxLen at hcm
  have HL := Lib.hid hx.1
  have q22 : ∀ (w : World) (a : Option Addr) (n c n' c' : Nat), (binOp .eql 25 (.slice a n c) (.slice none n' c')).run Tryz.prog w = .ok (.bool a.isNone) w := fun w a n c n' c' => Lib.run_eql_slice_nil w _ _ a n c n' c' Tryz.underlying25
  cases A with
  | none =>
    have h0 : n = 0 := by
      rcases Nat.eq_zero_or_pos n with h | h
      · exact h
      · obtain ⟨_, _, e, _⟩ := hx.at_ 0 h; exact absurd e (by simp)
    have hxs : xs = [] := List.eq_nil_of_length_eq_zero (by rw [← HL.out]; exact h0)
    subst hxs
    subst h0
    go_enter Tryz.func69, Tryz.ntmps69
    go_wp2
    go_ret
    exact ⟨_, rfl, by first | exact World.ownsRow_nil _ _ _ _ | exact ⟨rfl, .inl ⟨rfl, rfl⟩⟩, Below.refl _ _⟩
  | some a =>
  have hnews : ∀ j u, (xs.map (Value.int .i64))[j]? = some u → w.cell? (a.add j) = some u := fun j u hu => by
    have h0 : 0 < n := by
      have := (List.getElem?_eq_some_iff.1 hu).1
      rw [HL.out]; simp at this; omega
    obtain ⟨b', off', e, _, hc⟩ := hx.2.at_ h0
    injection e with e
    subst e
    have e : (⟨b', off', none⟩ : Addr).add j = ⟨b', off' + j, none⟩ := by simp [Addr.add]
    rw [e]
    exact hc j u hu
  go_enter Tryz.func69, Tryz.ntmps69
  go_wp2_with (at_builtin; refine wpList_append_own _ rfl _ _ 25 rfl w.heap.size 2 i0 (.int .i64 0) 1 8 Tryz.underlying25 hi hz0 hz1 hz2 rfl (by decide) _ _ _ rfl (World.ownsRow_made w #[] 0 (Nat.le_refl _) (Nat.zero_le _) rfl) a n c (xs.map (Value.int .i64)) rfl ?c0 ?c1 ?c2 ?c3 ?c4 ?c5 ?_)
  case c0 => have := HL.out; simp; omega
  case c1 => exact fun j u hu => cell_keep (box1C w (.cells #[] 2)) (hnews j u hu)
  case c2 => intro u hu; obtain ⟨x, _, rfl⟩ := List.mem_map.1 hu; rfl
  case c3 => unfold maxLen; omega
  case c4 => omega
  case c5 => simp
  intro v4 w4 own4 grow4 _

  have HO := Lib.hid own4
  have HB := Lib.hid ((box1C w (.cells #[] 2)).grown grow4 (by simp) (fun k hk => by have e : w.heap.size = k := Option.some.inj hk; omega))
  clear own4 grow4
  go_wp2
  go_ret
  exact ⟨v4, rfl, HO.out, HB.out⟩
end Go.Proofs.YtpnbbhomkneflaaGreatDoor
