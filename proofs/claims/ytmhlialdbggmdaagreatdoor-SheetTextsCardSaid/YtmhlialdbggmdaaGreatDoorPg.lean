/- Contract: Parse, of any text. -/
import Derived.Test.YtmhlialdbggmdaaGreatDoorRp
namespace Go.Proofs.YtmhlialdbggmdaaGreatDoor
open Go.RowKit Go.Proofs Go.Shelf
attribute [local go_sem] Oper.semAt_some

set_option maxRecDepth 100000 in
set_option maxHeartbeats 4000000 in
theorem Parse_long (s : ByteArray) (hs : 2000 < s.size) (w : World) :
    Calls Tryz.prog 15 #[.string s] w fun e w' => e = .returned (.tuple #[.slice none 0 0, .int .i64 0, .int .i64 3]) ∧ Below w.heap.size w w' := by
  refine (callsIn_wide (n := 8)).1 ?_
  refine callsIn_of_wp_marks Tryz.func15 rfl trivial ?_ rfl
  simp only [Tryz.ntmps15, List.size_toArray, List.length_cons, List.length_nil, Nat.reduceAdd, Nat.reduceSub, Array.replicate_succ, Array.replicate_zero, List.push_toArray, List.append_toArray, List.nil_append, List.cons_append]
  have hs' : ¬ (s.size : Int) ≤ 2000 := by omega
  have hs2 : (2000 : Int) < (s.size : Int) := by omega
  gi_wp2_with fail
  refine ⟨.tuple #[.slice none 0 0, .int .i64 0, .int .i64 3], ?_, rfl, (((Below.refl _ _).alloc (Nat.le_refl _) _).alloc (by simp) _).alloc (by simp; omega) _⟩
  simp [results, Tryz.results15, go_sem]
/-- Parse, of any text. -/
theorem Parse_any (s : ByteArray) (w : World) (hT : Tab w) (hE : ErrMem w) : Calls Tryz.prog 15 #[.string s] w (PaP s w) := by
  by_cases h : 2000 < s.size
  · exact (Parse_long s h w).mono fun e w' h' => ⟨.inl ⟨h, h'.1⟩, h'.2⟩
  · exact (Parse_mid s (by omega) w hT hE).mono fun e w' h' => ⟨.inr ⟨by omega, h'.1⟩, h'.2⟩
end Go.Proofs.YtmhlialdbggmdaaGreatDoor
