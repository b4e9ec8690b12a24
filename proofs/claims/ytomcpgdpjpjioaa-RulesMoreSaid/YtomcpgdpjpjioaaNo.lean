/- Contract: the document's Named. -/
import Derived.Test.YtomcpgdpjpjioaaNm
import Derived.Lib.Strings
namespace Go.Proofs.Ytomcpgdpjpjioaa
open Go.RowKit Go.Proofs Go.Shelf

theorem nm_world {s : ByteArray} (h : (s.toList == [119, 111, 114, 108, 100]) = true) : nmV s.data.toList = .tuple #[Cdv ⟨5, 5, 0, 8, false⟩, .int .i64 0] := by
  rw [beq_iff_eq, Lib.toList_data] at h
  unfold nmV
  rw [h, show nmR [119, 111, 114, 108, 100] = some ⟨5, 5, 0, 8, false⟩ from by unfold nmR; simp]; rfl
theorem nm_four {s : ByteArray} (h : (s.toList == [102, 111, 117, 114]) = true) : nmV s.data.toList = .tuple #[Cdv ⟨4, 0, 0, 8, false⟩, .int .i64 0] := by
  rw [beq_iff_eq, Lib.toList_data] at h
  unfold nmV
  rw [h, show nmR [102, 111, 117, 114] = some ⟨4, 0, 0, 8, false⟩ from by unfold nmR; simp]; rfl
theorem nm_three {s : ByteArray} (h : (s.toList == [116, 104, 114, 101, 101]) = true) : nmV s.data.toList = .tuple #[Cdv ⟨3, 0, 0, 8, false⟩, .int .i64 0] := by
  rw [beq_iff_eq, Lib.toList_data] at h
  unfold nmV
  rw [h, show nmR [116, 104, 114, 101, 101] = some ⟨3, 0, 0, 8, false⟩ from by unfold nmR; simp]; rfl
theorem nm_old {s : ByteArray} (h : (s.toList == [111, 108, 100]) = true) : nmV s.data.toList = .tuple #[Cdv ⟨0, 0, 0, 8, false⟩, .int .i64 0] := by
  rw [beq_iff_eq, Lib.toList_data] at h
  unfold nmV
  rw [h, show nmR [111, 108, 100] = some ⟨0, 0, 0, 8, false⟩ from by unfold nmR; simp]; rfl
theorem nm_mixed {s : ByteArray} (h : (s.toList == [109, 105, 120, 101, 100]) = true) : nmV s.data.toList = .tuple #[Cdv ⟨0, 0, 3, 5, true⟩, .int .i64 0] := by
  rw [beq_iff_eq, Lib.toList_data] at h
  unfold nmV
  rw [h, show nmR [109, 105, 120, 101, 100] = some ⟨0, 0, 3, 5, true⟩ from by unfold nmR; simp]; rfl
theorem nm_chair {s : ByteArray} (h : (s.toList == [99, 104, 97, 105, 114]) = true) : nmV s.data.toList = .tuple #[Cdv ⟨5, 0, 0, 8, false⟩, .int .i64 0] := by
  rw [beq_iff_eq, Lib.toList_data] at h
  unfold nmV
  rw [h, show nmR [99, 104, 97, 105, 114] = some ⟨5, 0, 0, 8, false⟩ from by unfold nmR; simp]; rfl
theorem nm_none {s : ByteArray} (h0 : (s.toList == [119, 111, 114, 108, 100]) = false) (h1 : (s.toList == [102, 111, 117, 114]) = false) (h2 : (s.toList == [116, 104, 114, 101, 101]) = false) (h3 : (s.toList == [111, 108, 100]) = false) (h4 : (s.toList == [109, 105, 120, 101, 100]) = false) (h5 : (s.toList == [99, 104, 97, 105, 114]) = false) : nmV s.data.toList = .tuple #[Cdv ⟨0, 0, 0, 0, false⟩, .int .i64 7] := by
  rw [beq_eq_false_iff_ne, Lib.toList_data] at h0 h1 h2 h3 h4 h5
  have e : nmR s.data.toList = none := by
    unfold nmR
    rw [if_neg h5, if_neg h4, if_neg h3, if_neg h2, if_neg h1, if_neg h0]
  unfold nmV
  rw [e]; rfl

set_option maxRecDepth 100000 in
set_option maxHeartbeats 1000000 in
theorem refNamed (s : ByteArray) (w : World) : Calls Try.prog 10 #[.string s] w (Back (nmV s.data.toList) w) := by
  have KX : Hid (Cz (w.alloc (.cells #[.int .i64 0, .int .i64 0, .int .i64 0, .int .i64 0, .bool false] 23)) w.heap.size ⟨0, 0, 0, 0, false⟩) := Cz.new w ⟨0, 0, 0, 0, false⟩
  have BX : Hid (Below w.heap.size w (w.alloc (.cells #[.int .i64 0, .int .i64 0, .int .i64 0, .int .i64 0, .bool false] 23))) := (Below.refl _ _).alloc (Nat.le_refl _) _
  go_enter Try.func10, Try.ntmps10
  go_upto_region 1 with fail
  generalize hwx : World.alloc w _ = wx
  rw [hwx] at KX BX
  clear hwx
  obtain ⟨⟨a0, a1, a2, a3, a4⟩, f0, f1, f2, f3, f4⟩ := KX.out
  go_wp2_with fail
  · rename_i h
    have hr := nm_world h
    refine bodyPost_ret (results_c5 (c := ⟨5, 5, 0, 8, false⟩) rfl _ _ rfl (set5 KX.out.1 ⟨5, 5, 0, 8, false⟩)) rfl ?_
    exact ⟨by rw [hr]; rfl, ((((BX.out.setCell (p := ⟨w.heap.size, 0, none⟩) (by simp) _).setCell (p := ⟨w.heap.size, 1, none⟩) (by simp) _).setCell (p := ⟨w.heap.size, 2, none⟩) (by simp) _).setCell (p := ⟨w.heap.size, 3, none⟩) (by simp) _).setCell (p := ⟨w.heap.size, 4, none⟩) (by simp) _⟩
  · rename_i h
    have hr := nm_four h
    refine bodyPost_ret (results_c5 (c := ⟨4, 0, 0, 8, false⟩) rfl _ _ rfl (set5 KX.out.1 ⟨4, 0, 0, 8, false⟩)) rfl ?_
    exact ⟨by rw [hr]; rfl, ((((BX.out.setCell (p := ⟨w.heap.size, 0, none⟩) (by simp) _).setCell (p := ⟨w.heap.size, 1, none⟩) (by simp) _).setCell (p := ⟨w.heap.size, 2, none⟩) (by simp) _).setCell (p := ⟨w.heap.size, 3, none⟩) (by simp) _).setCell (p := ⟨w.heap.size, 4, none⟩) (by simp) _⟩
  · rename_i h
    have hr := nm_three h
    refine bodyPost_ret (results_c5 (c := ⟨3, 0, 0, 8, false⟩) rfl _ _ rfl (set5 KX.out.1 ⟨3, 0, 0, 8, false⟩)) rfl ?_
    exact ⟨by rw [hr]; rfl, ((((BX.out.setCell (p := ⟨w.heap.size, 0, none⟩) (by simp) _).setCell (p := ⟨w.heap.size, 1, none⟩) (by simp) _).setCell (p := ⟨w.heap.size, 2, none⟩) (by simp) _).setCell (p := ⟨w.heap.size, 3, none⟩) (by simp) _).setCell (p := ⟨w.heap.size, 4, none⟩) (by simp) _⟩
  · rename_i h
    have hr := nm_old h
    refine bodyPost_ret (results_c5 (c := ⟨0, 0, 0, 8, false⟩) rfl _ _ rfl (set5 KX.out.1 ⟨0, 0, 0, 8, false⟩)) rfl ?_
    exact ⟨by rw [hr]; rfl, ((((BX.out.setCell (p := ⟨w.heap.size, 0, none⟩) (by simp) _).setCell (p := ⟨w.heap.size, 1, none⟩) (by simp) _).setCell (p := ⟨w.heap.size, 2, none⟩) (by simp) _).setCell (p := ⟨w.heap.size, 3, none⟩) (by simp) _).setCell (p := ⟨w.heap.size, 4, none⟩) (by simp) _⟩
  · rename_i h
    have hr := nm_mixed h
    refine bodyPost_ret (results_c5 (c := ⟨0, 0, 3, 5, true⟩) rfl _ _ rfl (set5 KX.out.1 ⟨0, 0, 3, 5, true⟩)) rfl ?_
    exact ⟨by rw [hr]; rfl, ((((BX.out.setCell (p := ⟨w.heap.size, 0, none⟩) (by simp) _).setCell (p := ⟨w.heap.size, 1, none⟩) (by simp) _).setCell (p := ⟨w.heap.size, 2, none⟩) (by simp) _).setCell (p := ⟨w.heap.size, 3, none⟩) (by simp) _).setCell (p := ⟨w.heap.size, 4, none⟩) (by simp) _⟩
  · rename_i h
    have hr := nm_chair h
    refine bodyPost_ret (results_c5 (c := ⟨5, 0, 0, 8, false⟩) rfl _ _ rfl (set5 KX.out.1 ⟨5, 0, 0, 8, false⟩)) rfl ?_
    exact ⟨by rw [hr]; rfl, ((((BX.out.setCell (p := ⟨w.heap.size, 0, none⟩) (by simp) _).setCell (p := ⟨w.heap.size, 1, none⟩) (by simp) _).setCell (p := ⟨w.heap.size, 2, none⟩) (by simp) _).setCell (p := ⟨w.heap.size, 3, none⟩) (by simp) _).setCell (p := ⟨w.heap.size, 4, none⟩) (by simp) _⟩
  · rename_i h0 h1 h2 h3 h4 h5
    have hr := nm_none h0 h1 h2 h3 h4 h5
    refine bodyPost_ret (results_c5 (c := ⟨0, 0, 0, 0, false⟩) rfl _ _ rfl (set5 KX.out.1 ⟨0, 0, 0, 0, false⟩)) rfl ?_
    exact ⟨by rw [hr]; rfl, ((((BX.out.setCell (p := ⟨w.heap.size, 0, none⟩) (by simp) _).setCell (p := ⟨w.heap.size, 1, none⟩) (by simp) _).setCell (p := ⟨w.heap.size, 2, none⟩) (by simp) _).setCell (p := ⟨w.heap.size, 3, none⟩) (by simp) _).setCell (p := ⟨w.heap.size, 4, none⟩) (by simp) _⟩
end Go.Proofs.Ytomcpgdpjpjioaa
