/- Contract: integer. -/
import Derived.Test.YtmhlialdbggmdaaGreatDoorY
import Derived.Lib.ParseIntBTie
import Derived.Lib.AtoiErrMem
namespace Go.Proofs.YtmhlialdbggmdaaGreatDoor
open Go.RowKit Go.Proofs Go.Shelf

/-- A text is that of an integer of at most 18 digits. -/
def intOk (l : List UInt8) (n : Int) : Prop := l = Lib.itoa n ∧ (-9223372036854775808 ≤ n ∧ n ≤ 9223372036854775807) ∧ (Lib.trimPrefix l [45]).length ≤ 18
theorem intOk_only {l : List UInt8} {n m : Int} (h : intOk l n) (hm : intOk l m) : n = m := by
  have a := parse_itoa h.2.1.1 h.2.1.2
  have b := parse_itoa hm.2.1.1 hm.2.1.2
  rw [← h.1] at a; rw [← hm.1, a] at b
  injection b

/-- The two variables of package strconv that hold its errors. -/
def ErrMem (w : World) : Prop := (∃ ev, w.cell? ⟨6, 0, none⟩ = some ev ∧ (ev = .nilIface ∨ ∃ te pe, ev = .iface te pe)) ∧ (∃ ev, w.cell? ⟨7, 0, none⟩ = some ev ∧ (ev = .nilIface ∨ ∃ te pe, ev = .iface te pe)) ∧ (∃ m, w.cell? ⟨3, 0, none⟩ = some (.int .i64 m))

theorem parse_ok (s : ByteArray) (hs : s.size ≤ 281474976710656) (w : World) (n : Int) (h : Lib.parseIntB 64 s.data.toList = .ok n) :
    Calls Tryz.prog 96 #[.string s, .int .i64 10, .int .i64 64] w (Back (.tuple #[.int .i64 n, .nilIface]) w) := by
  refine (Tryz.strconv_ParseInt_10_at64_ok s (by omega) n h w).mono ?_
  rintro e w' ⟨he, hw⟩
  refine ⟨he, ?_⟩
  rcases hw with rfl | ⟨t, rfl⟩
  · exact Below.refl _ _
  · exact Lib.bytesWorld_below w 5 t
theorem parse_no (s : ByteArray) (hs : s.size ≤ 281474976710656) (w : World) (hE : ErrMem w) (h : ∀ m, Lib.parseIntB 64 s.data.toList ≠ .ok m) :
    Calls Tryz.prog 96 #[.string s, .int .i64 10, .int .i64 64] w fun e w' => (∃ n N, e = .returned (.tuple #[.int .i64 n, .iface 152 (.pointer (some ⟨N, 0, none⟩))])) ∧ Below w.heap.size w w' := by
  obtain ⟨⟨e1, c1, k1⟩, ⟨e2, c2, k2⟩, -⟩ := hE
  by_cases hp : Lib.parseIntB 64 s.data.toList = .range
  · refine (Tryz.strconv_ParseInt_10_at64_range s hs hp e2 w c2 k2).mono ?_
    rintro e w' ⟨N, he, -, -, hb⟩
    exact ⟨⟨_, N, he⟩, hb⟩
  · refine (Tryz.strconv_ParseInt_10_at64_none s hs h hp e1 w c1 k1).mono ?_
    rintro e w' ⟨N, he, -, -, hb⟩
    exact ⟨⟨_, N, he⟩, hb⟩

set_option maxRecDepth 100000 in
set_option maxHeartbeats 4000000 in
theorem integer_any (s : ByteArray) (hs : s.size ≤ 281474976710656) (w : World) (hT : Tab w) (hE : ErrMem w) :
    Calls Tryz.prog 79 #[.string s] w fun e w' => (∃ n b, e = .returned (.tuple #[.int .i64 n, .bool b]) ∧ (b = true → intOk s.data.toList n) ∧ (b = false → ∀ m, ¬ intOk s.data.toList m)) ∧ Below w.heap.size w w' := by
  by_cases hp : ∃ n, Lib.parseIntB 64 s.data.toList = .ok n
  · obtain ⟨n, hp⟩ := hp
    have H1 := Lib.hid (parse_ok s hs w n hp)
    have hn : -9223372036854775808 ≤ n ∧ n ≤ 9223372036854775807 := by
      have := Lib.parseIntB_bounds hp
      have e : ((2 ^ (64 - 1) : Nat) : Int) = 9223372036854775808 := by decide
      rw [e] at this; omega
    have H2 : Hid (∀ W', Below w.heap.size w W' → Calls Tryz.prog 46 #[.int .i64 n, .int .i64 10] W' (Back (.string ⟨(Lib.itoa n).toArray⟩) W')) := fun W' hb => fmt_back n hn.1 hn.2 W' (Lib.tabBelow_of_tabIs hT W' hb)
    have HP := Lib.hid hp
    have HN := Lib.hid hn
    clear hp hn hT hE
    go_enter Tryz.func79, Tryz.ntmps79
    go_wp2_with (first
      | (go_at_call 96; refine H1.out.mono ?_; rintro e w1 ⟨rfl, hb1⟩)
      | (go_at_call 46; refine (H2.out _ hb1).mono ?_; rintro e w2 ⟨rfl, hb2⟩)
      | (go_at_call 97; refine (Tryz.strings_TrimPrefix _ _ _).mono ?_; rintro e w3 ⟨rfl, hw3⟩; subst hw3))
    · go_ret2
      rename_i hq
      have hq' : s.data.toList = Lib.itoa n := by rw [← Lib.toList_data]; exact hq.symm
      refine ⟨⟨n, _, rfl, fun h => ⟨hq', HN.out, by have := of_decide_eq_true h; omega⟩, fun h m hm => ?_⟩, hb1.trans (hb2.mono hb1.size)⟩
      have := of_decide_eq_false h
      have := hm.2.2
      omega
    · go_ret2
      rename_i hq
      refine ⟨⟨n, false, rfl, nofun, fun _ m hm => ?_⟩, hb1.trans (hb2.mono hb1.size)⟩
      have e : Lib.parseIntB 64 s.data.toList = .ok m := by rw [hm.1]; exact parse_itoa hm.2.1.1 hm.2.1.2
      rw [HP.out] at e
      injection e with e
      exact hq (by rw [Lib.toList_data, hm.1, e])
  · have H1 := Lib.hid (parse_no s hs w hE fun m h => hp ⟨m, h⟩)
    have HP := Lib.hid hp
    clear hT hE hs hp
    go_enter Tryz.func79, Tryz.ntmps79
    go_wp2_with (go_at_call 96; refine H1.out.mono ?_; rintro e w1 ⟨⟨n, N, rfl⟩, hb1⟩)
    go_ret2
    exact ⟨⟨n, false, rfl, nofun, fun _ m hm => HP.out ⟨m, by rw [hm.1]; exact parse_itoa hm.2.1.1 hm.2.1.2⟩⟩, hb1⟩
end Go.Proofs.YtmhlialdbggmdaaGreatDoor
