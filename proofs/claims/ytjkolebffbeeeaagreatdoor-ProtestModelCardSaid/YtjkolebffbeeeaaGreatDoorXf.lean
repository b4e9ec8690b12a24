/- strings.Builder, strings.Join at this program. -/
import Derived.Test.YtjkolebffbeeeaaGreatDoorXe
import Derived.Test.YtjkolebffbeeeaaGreatDoorG12
import Derived.Test.YtjkolebffbeeeaaGreatDoorGu
import Derived.WalkKit
import Derived.Lib.Builder
import Derived.Laws.Externs
namespace Go.Proofs.YtjkolebffbeeeaaGreatDoor
open Go Go.RowKit Go.Proofs
theorem size82 : (Tryz.prog.info? 82).map (·.size) = some 2 := by kernel_rfl
theorem lies82 : liesAt Tryz.prog Tryz.prog.depth 82 (2 / Tryz.prog.cellsOf 82) 0 82 1 = true := by kernel_rfl
set_option maxRecDepth 100000 in
set_option maxHeartbeats 1000000 in
theorem copyCheck_used (b : Nat) (w : World) (h0 : w.cell? ⟨b, 0, none⟩ = some (.pointer (some ⟨b, 0, none⟩))) :
  Calls Tryz.prog 75 #[.pointer (some ⟨b, 0, none⟩)] w fun e w' => e = .returned (.tuple #[]) ∧ w' = w := by
 obtain ⟨j, hj, _⟩ := Option.map_eq_some_iff.1 size82
 go_enter Tryz.func75, Tryz.ntmps75
 go_wp2
 rw [Lib.run_neq_ptr_same w _ Tryz.underlying79 hj]
 go_wp2
 go_end0
 exact ⟨rfl, rfl⟩
set_option maxRecDepth 100000 in
set_option maxHeartbeats 1000000 in
theorem copyCheck_fresh (b : Nat) (w : World) (h0 : w.cell? ⟨b, 0, none⟩ = some (.pointer none)) (hsh : w.shape? b = some (82, 2)) (hfz : w.frozen? ⟨b, 0, none⟩ = false) :
  Calls Tryz.prog 75 #[.pointer (some ⟨b, 0, none⟩)] w fun e w' => e = .returned (.tuple #[]) ∧ w' = w.setCell ⟨b, 0, none⟩ (.pointer (some ⟨b, 0, none⟩)) := by
 obtain ⟨j, hj, hjs⟩ := Option.map_eq_some_iff.1 size82
 go_enter Tryz.func75, Tryz.ntmps75
 go_wp2
 rw [Lib.run_to_unsafe w ⟨b, 0, none⟩ Tryz.underlying79 Tryz.underlying129 hj (by rw [hjs]; decide) hsh (Nat.zero_lt_succ 1)]
 simp only [Result.andThen]
 rw [Oper.upon_value]
 go_wp2
 rw [run_callFunc_extern Tryz.func96 (by kernel_rfl) (by kernel_rfl) (by kernel_rfl) (e := Extern.AbiNoEscape.same) (by kernel_rfl)]
 rw [Lib.run_noEscape]
 simp only [Result.andThen]
 rw [Oper.upon_value]
 go_wp2
 rw [Lib.run_from_unsafe w ⟨b, 0, none⟩ Tryz.underlying129 Tryz.underlying79 hj hsh lies82]
 simp only [Result.andThen]
 rw [Oper.upon_value]
 go_wp2
 go_end0
 exact ⟨rfl, rfl⟩
/-- A builder: fresh, or in use. -/
theorem copyCheck75 (b : Nat) (p sv : Value) (hp : p = .pointer none ∨ p = .pointer (some ⟨b, 0, none⟩)) (w : World) (h : (cellB b [p, sv] 82).holds w) :
  Calls Tryz.prog 75 #[.pointer (some ⟨b, 0, none⟩)] w (RetM (cellB b [p, sv] 82) (fun _ : Unit => True) (fun _ => .tuple #[]) (fun _ => cellB b [.pointer (some ⟨b, 0, none⟩), sv] 82) w) := by
 have hlt : b < w.heap.size := cellB_lt h
 have hs := Wd.startM h (fun k e => by cases e; exact hlt)
 rcases hp with rfl | rfl
 ·refine (copyCheck_fresh b w (cellB_get h rfl) (by have h' : w.heap[b]? = _ := h; simp [World.shape?, h']) (by have h' : w.heap[b]? = _ := h; simp [World.frozen?, h'])).mono ?_
  rintro e w' ⟨rfl, rfl⟩
  have hc : Chg (cellB b [.pointer none, sv] 82) w (w.setCell ⟨b, 0, none⟩ (.pointer (some ⟨b, 0, none⟩))) := by
   have hg := grown_set w ⟨b, 0, none⟩ (.pointer (some ⟨b, 0, none⟩))
   exact ⟨hg.os, hg.tape, hg.output, hg.size, fun k hk hn => hg.block k hk (fun e => hn (by injection e))⟩
  refine ⟨(), trivial, rfl, hs.chg (At.here _) rfl rfl hc ?_ (fun k hk => ⟨.inl hk, ?_⟩)⟩
  ·have h' : w.heap[b]? = some (.cells #[.pointer none, sv] 82 (0, 0)) := h
   show (w.setCell _ _).heap[b]? = some (.cells #[_, sv] 82 (0, 0))
   simp [World.setCell, Array.getElem?_modify, h']
  ·have e : k = b := hk
   subst e
   exact Nat.lt_of_lt_of_le hlt hc.size
 ·refine (copyCheck_used b w (cellB_get h rfl)).mono ?_
  rintro e w' ⟨rfl, rfl⟩
  exact ⟨(), trivial, rfl, hs⟩
theorem mknz107 (args : Array Value) (w : World) : (callFunc 107 args).run Tryz.prog w = ((Extern.BytealgMakeNoZero.makeNoZero #[3] #[80] args).run Tryz.prog w).andThen fun v w' => .ok (.value v) w' := run_callFunc_extern Tryz.func107 (by kernel_rfl) (by kernel_rfl) (by kernel_rfl) (e := Extern.BytealgMakeNoZero.makeNoZero #[3] #[80]) (by kernel_rfl) args w
theorem cells5 : Tryz.prog.cellsOf 5 = 1 := by kernel_rfl
theorem sz5 : (Tryz.prog.info? 5).map (·.size) = some 1 := by kernel_rfl
attribute [local irreducible] J JQ JL JA JD

set_option maxRecDepth 100000 in
set_option maxHeartbeats 4000000 in
theorem WriteString50 (b : Nat) (p : Value) (A : Option Addr) (c : Nat) (s u : ByteArray) (B0 : Bs) (w : World) (hp : p = .pointer none ∨ p = .pointer (some ⟨b, 0, none⟩)) (hl : s.size + u.size ≤ 1000000000) (hW : Wd B0 [cellB b [p, .slice A s.size c] 82, bytB 5 A c s] w) : Calls Tryz.prog 50 #[.pointer (some ⟨b, 0, none⟩), .string u] w (RetL [cellB b [p, .slice A s.size c] 82, bytB 5 A c s] (fun _ : Option Addr × Nat => True) (fun _ => .tuple #[.int .i64 (u.size : Nat), .nilIface]) (fun t => [cellB b [.pointer (some ⟨b, 0, none⟩), .slice t.1 (s ++ u).size t.2] 82, bytB 5 t.1 t.2 (s ++ u)]) w) := by
 refine J_start (B := ⟨w, (allI [cellB b [p, .slice A s.size c] 82, bytB 5 A c s]).foot, none, []⟩) rfl rfl (vs := [.pointer (some ⟨b, 0, none⟩), .string u]) (k := 17) (l := [(0, .pointer (some ⟨b, 0, none⟩)), (1, .string u)]) Tryz.func50 rfl rfl Tryz.ntmps50 rfl rfl (Wd.startL hW) ?_
 refine s9 ?_
 refine aW (oM (fun w hw => copyCheck75 b p _ hp w (hw.ok (cellB b [p, .slice A s.size c] 82) (by repeat constructor)).1)) (fun _ _ => ?_)
 refine s3 ?_
 refine kJ [(0, _), (1, _)] ?_
 refine s7 ?_
 refine aS (oAppStr s u hl) (fun A14 c14 => ?_)
 refine s6 ?_
 refine kJ [(1, _)] ?_
 refine s8 ?_
 refine JR_two rfl (rr_tmp rfl) (rr_tmp rfl) ?_
 intro w' hw
 exact ⟨(A14, c14), trivial, rfl, hw.pick (by repeat constructor)⟩
set_option maxRecDepth 100000 in
set_option maxHeartbeats 4000000 in
theorem String52 (b : Nat) (p : Value) (A : Option Addr) (c : Nat) (s : ByteArray) (B0 : Bs) (w : World) (hW : Wd B0 [cellB b [p, .slice A s.size c] 82, bytB 5 A c s] w) (hA : A = none ∨ c ≠ 0) (hA0 : A = none → s.size = 0) : Calls Tryz.prog 52 #[.pointer (some ⟨b, 0, none⟩)] w (RetL [cellB b [p, .slice A s.size c] 82, bytB 5 A c s] (fun _ : Unit => True) (fun _ => .string s) (fun _ => []) w) := by
 refine J_start (B := ⟨w, (allI [cellB b [p, .slice A s.size c] 82, bytB 5 A c s]).foot, none, []⟩) rfl rfl (vs := [.pointer (some ⟨b, 0, none⟩)]) (k := 13) (l := [(0, .pointer (some ⟨b, 0, none⟩))]) Tryz.func52 rfl rfl Tryz.ntmps52 rfl rfl (Wd.startL hW) ?_
 refine s6 ?_
 refine xDx [0, 1, 2, 3, 5, 6, 7, 8, 9, 4, 10, 11] [] [3, 8] [cellB b [p, .slice A s.size c] 82] ?_
 refine s9 ?_
 refine dV rfl (RP.rv (pSliceData hA)) ?_
 refine dW rfl (oUStr s cells5 (hs := hA0)) (fun _ _ => ?_)
 refine s4 ?_
 refine JR_one rfl (rr_tmp rfl) ?_
 intro w' hw
 exact ⟨(), trivial, rfl, hw.pick (Pk.nil _)⟩
set_option maxRecDepth 100000 in
set_option maxHeartbeats 4000000 in
theorem grow97 (b n : Nat) (B0 : Bs) (w : World) (hn : n ≤ 1000000000) (hW : Wd B0 [cellB b [.pointer (some ⟨b, 0, none⟩), .slice none 0 0] 82] w) : Calls Tryz.prog 97 #[.pointer (some ⟨b, 0, none⟩), .int .i64 (n : Nat)] w (RetL [cellB b [.pointer (some ⟨b, 0, none⟩), .slice none 0 0] 82] (fun t : Nat × Nat => n ≤ t.2 ∧ t.2 ≤ maxLen) (fun _ => .tuple #[]) (fun t => [cellB b [.pointer (some ⟨b, 0, none⟩), .slice (some ⟨t.1, 0, none⟩) 0 t.2] 82, bytB 5 (some ⟨t.1, 0, none⟩) t.2 ⟨#[]⟩]) w) := by
 refine J_start (B := ⟨w, (allI [cellB b [.pointer (some ⟨b, 0, none⟩), .slice none 0 0] 82]).foot, none, []⟩) rfl rfl (vs := [.pointer (some ⟨b, 0, none⟩), .int .i64 (n : Nat)]) (k := 28) (l := [(0, .pointer (some ⟨b, 0, none⟩)), (1, .int .i64 (n : Nat))]) Tryz.func97 rfl rfl Tryz.ntmps97 rfl rfl (Wd.startL hW) ?_
 refine s1 ?_
 refine xD [0, 1, 2, 3, 4, 5, 6, 7, 9, 10, 11, 12, 13, 8, 14, 15] [3, 12] ?_
 refine s4 ?_
 refine dP rfl pCap ?_
 refine s8 ?_
 refine dW rfl (oMkNZ (k := n) hn mknz107 (ho := rfl) (hx := congrArg (fun z => some (Value.int .i64 z)) (by omega))) (fun t13 ht13 => ?_)
 obtain ⟨g, c⟩ := t13
 obtain ⟨hc1, hc2⟩ := ht13
 dsimp only at hc1 hc2 ⊢
 refine dP rfl (rp_sliceTo (k := 0) rfl rfl rfl Und.h Siz.h rfl (by omega)) ?_
 refine s4 ?_
 refine kJ [(0, _), (4, _)] ?_
 refine s6 ?_
 refine aP (pCopy0 sz5 rfl) ?_
 refine s2 ?_
 refine kJ [(0, _), (4, _)] ?_
 refine s7 ?_
 refine JR_end rfl ?_
 intro w' hw
 exact ⟨(g, c), ⟨hc1, hc2⟩, rfl, hw.pick (by repeat constructor)⟩
set_option maxRecDepth 100000 in
set_option maxHeartbeats 4000000 in
theorem Grow76 (b n : Nat) (B0 : Bs) (w : World) (h0n : 0 < n) (hn : n ≤ 1000000000) (hW : Wd B0 [cellB b [.pointer none, .slice none 0 0] 82] w) : Calls Tryz.prog 76 #[.pointer (some ⟨b, 0, none⟩), .int .i64 (n : Nat)] w (RetL [cellB b [.pointer none, .slice none 0 0] 82] (fun t : Nat × Nat => n ≤ t.2 ∧ t.2 ≤ maxLen) (fun _ => .tuple #[]) (fun t => [cellB b [.pointer (some ⟨b, 0, none⟩), .slice (some ⟨t.1, 0, none⟩) 0 t.2] 82, bytB 5 (some ⟨t.1, 0, none⟩) t.2 ⟨#[]⟩]) w) := by
 refine J_start (B := ⟨w, (allI [cellB b [.pointer none, .slice none 0 0] 82]).foot, none, []⟩) rfl rfl (vs := [.pointer (some ⟨b, 0, none⟩), .int .i64 (n : Nat)]) (k := 23) (l := [(0, .pointer (some ⟨b, 0, none⟩)), (1, .int .i64 (n : Nat))]) Tryz.func76 rfl rfl Tryz.ntmps76 rfl rfl (Wd.startL hW) ?_
 refine s3 ?_
 refine aW (oM (fun w hw => copyCheck75 b _ _ (.inl rfl) w (hw.ok (cellB b [.pointer none, .slice none 0 0] 82) (by repeat constructor)).1)) (fun _ _ => ?_)
 refine s7 ?_
 refine aDecF ?_
 refine s6 ?_
 refine kJ [(0, _), (1, _)] ?_
 refine xD [0, 1, 2, 3, 4, 5, 6, 7, 8, 9, 10, 11, 12] [3, 8] ?_
 refine s4 ?_
 refine dP rfl pCap ?_
 refine s8 ?_
 refine dDecT ?_
 refine s3 ?_
 refine kJ [(0, _), (1, _)] ?_
 refine s3 ?_
 refine aW (oL [cellB b [.pointer (some ⟨b, 0, none⟩), .slice none 0 0] 82] [] (fun w hw h0 => grow97 b n _ w hn h0)) (fun t24 ht24 => ?_)
 obtain ⟨g, c⟩ := t24
 dsimp only at ht24 ⊢
 refine s1 ?_
 refine JR_end rfl ?_
 intro w' hw
 exact ⟨(g, c), ht24, rfl, hw.pick (by repeat constructor)⟩
end Go.Proofs.YtjkolebffbeeeaaGreatDoor
