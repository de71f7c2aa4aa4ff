/- Numbers read by the library: what impl's readNumber computes. -/
import Derived.Test.YtfacbdliegemgaaDoorReadB
import Derived.Test.YtfacbdliegemgaaDoorShelf4
import Derived.Lib.SmallJoins
namespace Go.Proofs.YtfacbdliegemgaaDoor
open Go.ChangeShapes Go.WideShapes Go.ChangeAt Go.RowKit

/-- the library's two errors, as long as nothing below is changed -/
def ErrCells (w : World) : Prop := (∃ t p, w.cell? ⟨1, 0, none⟩ = some (.iface t p)) ∧ ∃ t p, w.cell? ⟨2, 0, none⟩ = some (.iface t p)
theorem ErrCells.below {w w' : World} (h : ErrCells w) (hb : Below w.heap.size w w') : ErrCells w' := by
  obtain ⟨⟨t, p, h1⟩, t2, p2, h2⟩ := h
  exact ⟨⟨t, p, cell_keep hb h1⟩, t2, p2, cell_keep hb h2⟩
theorem parse_any (s : ByteArray) (w : World) (hs : s.size ≤ 1048576) (he : ErrCells w) :
    Calls Tryd.prog 73 #[.string s, .int .i64 10, .int .i64 64] w fun e w' => ∃ E, e = .returned (.tuple #[.int .i64 (rNum s.data.toList), E]) ∧ ((E = .nilIface ∧ ∃ v, Lib.parseIntB 64 s.data.toList = .ok v) ∨ ((∃ t p, E = .iface t p) ∧ ∀ v, Lib.parseIntB 64 s.data.toList ≠ .ok v)) ∧ Below w.heap.size w w' := by
  obtain ⟨⟨t, p, h1⟩, t2, p2, h2⟩ := he
  rcases hp : Lib.parseIntB 64 s.data.toList with v | _ | _
  · have hn : rNum s.data.toList = v := by unfold rNum; rw [hp]
    rw [hn]
    refine (Tryd.strconv_ParseInt_10_at64_ok s (by omega) v hp w).mono ?_
    rintro e_ w1 ⟨h0, h⟩
    refine ⟨.nilIface, h0, .inl ⟨rfl, v, rfl⟩, ?_⟩
    rcases h with rfl | ⟨t, rfl⟩
    · exact Below.refl _ _
    · exact Go.Joins.below_bytesWorld _ _ _ _ (Nat.le_refl _)
  all_goals
    first
    | (have hn : rNum s.data.toList = 0 := by unfold rNum; rw [hp] <;> rfl
       rw [hn]
       refine (Any.strconv_ParseInt_10_at64_syntax Tryd.laysC174 s (by omega) hp _ w h1 (.inr ⟨t, p, rfl⟩)).mono ?_
       rintro e_ w1 ⟨N, h0, _, _, h⟩
       exact ⟨_, h0, .inr ⟨⟨_, _, rfl⟩, by intro v h; cases h⟩, h⟩)
    | (have hn : rNum s.data.toList = Lib.intSat 64 s.data.toList := by unfold rNum; rw [hp] <;> rfl
       rw [hn]
       refine (Tryd.strconv_ParseInt_10_at64_range s (by omega) hp _ w h2 (.inr ⟨t2, p2, rfl⟩)).mono ?_
       rintro e_ w1 ⟨N, h0, _, _, h⟩
       exact ⟨_, h0, .inr ⟨⟨_, _, rfl⟩, by intro v h; cases h⟩, h⟩)
set_option maxHeartbeats 1000000 in
theorem readNumber_any (s : ByteArray) (w : World) (hs : s.size ≤ 1048576) (he : ErrCells w) (ht : PowTab w) :
    Calls Tryd.prog 61 #[.string s] w fun e w' => e = .returned (.tuple #[.int .i64 (rNum s.data.toList), .bool (rOk s.data.toList)]) ∧ Below w.heap.size w w' := by
  have hp := parse_any s w hs he
  by_cases hk : ∃ v, Lib.parseIntB 64 s.data.toList = .ok v
  · obtain ⟨v, hv⟩ := hk
    have hbd := parse_bd hv
    have hn : rNum s.data.toList = v := by unfold rNum; rw [hv]
    have HO := Lib.hid (show rOk s.data.toList = decide (numT v = s) by
      unfold rOk numT
      rw [hv]
      exact decide_eq_decide.2 ⟨fun h => by rw [h], fun h => by rw [← h]⟩)
    rw [hn] at hp ⊢
    obtain ⟨t, htt⟩ : ∃ t, numT v = t := ⟨_, rfl⟩
    have hd := fun W hW => decimal_any v W hbd.1 hbd.2 hW
    rw [htt] at HO hd
    clear htt hn
    go_enter Tryd.func61, Tryd.ntmps61
    go_wp2_with fail
    refine hp.mono ?_
    rintro e_ w1 ⟨E, rfl, hE, h1⟩
    rcases hE with ⟨rfl, _⟩ | ⟨_, hE⟩
    · have hd1 := hd w1 (ht.below h1)
      clear hd hv hbd
      go_wp2_with fail
      refine hd1.mono ?_
      rintro e_ w2 ⟨rfl, h2⟩
      go_wp2
      go_ret2
      exact ⟨by rw [HO.out, ← text_dec]; rfl, next h1 h2⟩
    · exact absurd hv (hE v)
  · have HO := Lib.hid (show rOk s.data.toList = false by
      unfold rOk
      split
      · rename_i v hv; exact absurd ⟨v, hv⟩ hk
      · rfl)
    go_enter Tryd.func61, Tryd.ntmps61
    go_wp2_with fail
    refine hp.mono ?_
    rintro e_ w1 ⟨E, rfl, hE, h1⟩
    rcases hE with ⟨_, hE⟩ | ⟨⟨t, p, rfl⟩, _⟩
    · exact absurd hE hk
    · clear hk hp
      go_wp2
      go_ret2
      exact ⟨by rw [HO.out]; rfl, h1⟩
end Go.Proofs.YtfacbdliegemgaaDoor
