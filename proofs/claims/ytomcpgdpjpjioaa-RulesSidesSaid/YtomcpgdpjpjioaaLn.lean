/- Contracts: the lines of the rules, and what they ask. -/
import Derived.Test.YtomcpgdpjpjioaaSe
namespace Go.Proofs.Ytomcpgdpjpjioaa
open Go.RowKit Go.Proofs Go.Shelf
attribute [local go_sem] Oper.semAt_some

abbrev Evo (x : Th) (u : Value) (r m s : Bool) : Obj := .cells #[.int .i64 x.team, .int .i64 x.n, .bool x.late, .bool x.short, .int .i64 x.how, u, .bool r, .bool m, .bool s] 90
theorem ask85 (x : Th) (u : Value) (r m s : Bool) (how : Int) (ph : Nat) (w : World) (h : w.cell? ⟨ph, 0, none⟩ = some (.int .i64 how)) (hu : ∃ A n c, u = .slice A n c) :
    Calls Try.prog 85 #[Evv x u r m s, .pointer (some ⟨ph, 0, none⟩)] w (Back (.bool (x.how == how)) w) := by
  obtain ⟨A, n, c, rfl⟩ := hu
  obtain ⟨x1, x2, x3, x4, x5⟩ := x
  have B : Hid (Below w.heap.size w (w.alloc (Evo ⟨x1, x2, x3, x4, x5⟩ (.slice A n c) r m s))) := (Below.refl _ _).alloc (Nat.le_refl _) _
  have h' := upa h (Evo ⟨x1, x2, x3, x4, x5⟩ (.slice A n c) r m s)
  clear h
  go_enter Try.func85, Try.ntmps85
  go_wp2_with fail
  go_ret
  exact ⟨rfl, B.out⟩
theorem ask86 (x : Th) (u : Value) (r m s : Bool) (w : World) (hu : ∃ A n c, u = .slice A n c) : Calls Try.prog 86 #[Evv x u r m s] w (Back (.bool x.late) w) := by
  obtain ⟨A, n, c, rfl⟩ := hu
  obtain ⟨x1, x2, x3, x4, x5⟩ := x
  have B : Hid (Below w.heap.size w (w.alloc (Evo ⟨x1, x2, x3, x4, x5⟩ (.slice A n c) r m s))) := (Below.refl _ _).alloc (Nat.le_refl _) _
  go_enter Try.func86, Try.ntmps86
  go_wp2_with fail
  go_ret
  exact ⟨rfl, B.out⟩
theorem ask87 (x : Th) (u : Value) (r m s : Bool) (w : World) (hu : ∃ A n c, u = .slice A n c) : Calls Try.prog 87 #[Evv x u r m s] w (Back (.bool x.short) w) := by
  obtain ⟨A, n, c, rfl⟩ := hu
  obtain ⟨x1, x2, x3, x4, x5⟩ := x
  have B : Hid (Below w.heap.size w (w.alloc (Evo ⟨x1, x2, x3, x4, x5⟩ (.slice A n c) r m s))) := (Below.refl _ _).alloc (Nat.le_refl _) _
  go_enter Try.func87, Try.ntmps87
  go_wp2_with fail
  go_ret
  exact ⟨rfl, B.out⟩
theorem ask88 (x : Th) (u : Value) (r m s : Bool) (w : World) (hu : ∃ A n c, u = .slice A n c) : Calls Try.prog 88 #[Evv x u r m s] w (Back (.bool (r && !s)) w) := by
  obtain ⟨A, n, c, rfl⟩ := hu
  obtain ⟨x1, x2, x3, x4, x5⟩ := x
  have B : Hid (Below w.heap.size w (w.alloc (Evo ⟨x1, x2, x3, x4, x5⟩ (.slice A n c) r m s))) := (Below.refl _ _).alloc (Nat.le_refl _) _
  cases r
  all_goals
    go_enter Try.func88, Try.ntmps88
    go_wp2_with fail
    go_ret
    exact ⟨rfl, B.out⟩
theorem ask89 (x : Th) (u : Value) (r m s : Bool) (w : World) (hu : ∃ A n c, u = .slice A n c) : Calls Try.prog 89 #[Evv x u r m s] w (Back (.bool r) w) := by
  obtain ⟨A, n, c, rfl⟩ := hu
  obtain ⟨x1, x2, x3, x4, x5⟩ := x
  have B : Hid (Below w.heap.size w (w.alloc (Evo ⟨x1, x2, x3, x4, x5⟩ (.slice A n c) r m s))) := (Below.refl _ _).alloc (Nat.le_refl _) _
  go_enter Try.func89, Try.ntmps89
  go_wp2_with fail
  go_ret
  exact ⟨rfl, B.out⟩
theorem ask90 (x : Th) (u : Value) (r m s : Bool) (w : World) (hu : ∃ A n c, u = .slice A n c) : Calls Try.prog 90 #[Evv x u r m s] w (Back (.bool m) w) := by
  obtain ⟨A, n, c, rfl⟩ := hu
  obtain ⟨x1, x2, x3, x4, x5⟩ := x
  have B : Hid (Below w.heap.size w (w.alloc (Evo ⟨x1, x2, x3, x4, x5⟩ (.slice A n c) r m s))) := (Below.refl _ _).alloc (Nat.le_refl _) _
  go_enter Try.func90, Try.ntmps90
  go_wp2_with fail
  go_ret
  exact ⟨rfl, B.out⟩
/-- A test of how the stone was touched. -/
theorem mk84 (how : Int) (w : World) : Calls Try.prog 84 #[.int .i64 how] w fun e w' => e = .returned (.func (.func 85) #[] #[.pointer (some ⟨w.heap.size, 0, none⟩)]) ∧ w' = w.alloc (.cells #[.int .i64 how] 3) := by
  go_enter Try.func84, Try.ntmps84
  go_wp2_with fail
  go_ret
  exact ⟨rfl, rfl⟩
/-- The functions of the lines, and what they have caught (b: where the first number lies). -/
def fnL : Nat → FuncId | 0 => 86 | 1 => 85 | 2 => 87 | 3 => 85 | 4 => 85 | 5 => 85 | 6 => 88 | 7 => 89 | _ => 90
def cpL (b : Nat) : Nat → Array Value | 1 => #[.pointer (some ⟨b, 0, none⟩)] | 3 => #[.pointer (some ⟨b + 1, 0, none⟩)] | 4 => #[.pointer (some ⟨b + 2, 0, none⟩)] | 5 => #[.pointer (some ⟨b + 3, 0, none⟩)] | _ => #[]
/-- Whether a line applies. -/
def apL (x : Th) (r m s : Bool) : Nat → Bool | 0 => x.late | 1 => x.how == 1 | 2 => x.short | 3 => x.how == 3 | 4 => x.how == 2 | 5 => x.how == 4 | 6 => r && !s | 7 => r | _ => m
/-- The lines' cells, and the numbers that four of them have caught. -/
def LinAt (W : World) (bl b : Nat) : Prop :=
  (∀ i, i < 9 → W.cell? ⟨bl, i * 2, none⟩ = some (.int .i64 ((i + 1 : Nat) : Int)) ∧ W.cell? ⟨bl, i * 2 + 1, none⟩ = some (.func (.func (fnL i)) #[] (cpL b i))) ∧
  W.cell? ⟨b, 0, none⟩ = some (.int .i64 1) ∧ W.cell? ⟨b + 1, 0, none⟩ = some (.int .i64 3) ∧ W.cell? ⟨b + 2, 0, none⟩ = some (.int .i64 2) ∧ W.cell? ⟨b + 3, 0, none⟩ = some (.int .i64 4)
theorem LinAt.up {W W' : World} {bl b : Nat} (h : LinAt W bl b) (hb : Below W.heap.size W W') : LinAt W' bl b := by
  obtain ⟨h1, h2, h3, h4, h5⟩ := h
  exact ⟨fun i hi => ⟨upc (h1 i hi).1 hb, upc (h1 i hi).2 hb⟩, upc h2 hb, upc h3 hb, upc h4 hb, upc h5 hb⟩
/-- What each line asks. -/
theorem asks (x : Th) (u : Value) (r m s : Bool) (W : World) (bl b i : Nat) (hi : i < 9) (h : LinAt W bl b) (hu : ∃ A n c, u = .slice A n c) :
    Calls Try.prog (fnL i) (#[Evv x u r m s] ++ cpL b i) W (Back (.bool (apL x r m s i)) W) := by
  obtain ⟨-, h1, h2, h3, h4⟩ := h
  rcases i with _ | _ | _ | _ | _ | _ | _ | _ | _ | i
  · exact ask86 x u r m s W hu
  · exact ask85 x u r m s 1 b W h1 hu
  · exact ask87 x u r m s W hu
  · exact ask85 x u r m s 3 (b + 1) W h2 hu
  · exact ask85 x u r m s 2 (b + 2) W h3 hu
  · exact ask85 x u r m s 4 (b + 3) W h4 hu
  · exact ask88 x u r m s W hu
  · exact ask89 x u r m s W hu
  · exact ask90 x u r m s W hu
  · exfalso; omega
theorem fnL_enters (i : Nat) : ∀ args w, (callFunc (fnL i) args).run Try.prog w = .ok (.enter (fnL i) args) w := by
  rcases i with _ | _ | _ | _ | _ | _ | _ | _ | i
  · exact enters_of Try.func86 (by kernel_rfl) rfl
  · exact enters_of Try.func85 (by kernel_rfl) rfl
  · exact enters_of Try.func87 (by kernel_rfl) rfl
  · exact enters_of Try.func85 (by kernel_rfl) rfl
  · exact enters_of Try.func85 (by kernel_rfl) rfl
  · exact enters_of Try.func85 (by kernel_rfl) rfl
  · exact enters_of Try.func88 (by kernel_rfl) rfl
  · exact enters_of Try.func89 (by kernel_rfl) rfl
  · exact enters_of Try.func90 (by kernel_rfl) rfl
/-- The contract of lines. -/
def LinC (w : World) (e : Ending) (w' : World) : Prop := (∃ bl b, e = .returned (.slice (some ⟨bl, 0, none⟩) 9 9) ∧ w.heap.size ≤ bl ∧ LinAt w' bl b) ∧ Below w.heap.size w w'
theorem lin_new (w : World) : LinAt (((((w.alloc (.cells #[.int .i64 1] 3)).alloc (.cells #[.int .i64 3] 3)).alloc (.cells #[.int .i64 2] 3)).alloc (.cells #[.int .i64 4] 3)).alloc
      (.cells #[.int .i64 1, .func (.func 86) #[] #[], .int .i64 2, .func (.func 85) #[] #[.pointer (some ⟨w.heap.size, 0, none⟩)], .int .i64 3, .func (.func 87) #[] #[], .int .i64 4, .func (.func 85) #[] #[.pointer (some ⟨w.heap.size + 1, 0, none⟩)],
        .int .i64 5, .func (.func 85) #[] #[.pointer (some ⟨w.heap.size + 1 + 1, 0, none⟩)], .int .i64 6, .func (.func 85) #[] #[.pointer (some ⟨w.heap.size + 1 + 1 + 1, 0, none⟩)], .int .i64 7, .func (.func 88) #[] #[],
        .int .i64 8, .func (.func 89) #[] #[], .int .i64 9, .func (.func 90) #[] #[]] 96)) (w.heap.size + 1 + 1 + 1 + 1) w.heap.size := by
  refine ⟨fun i hi => ?_, ?_, ?_, ?_, ?_⟩
  · rcases i with _ | _ | _ | _ | _ | _ | _ | _ | _ | i
    all_goals first
      | (exfalso; omega)
      | (refine ⟨?_, ?_⟩ <;> simp [go_sem, fnL, cpL])
  all_goals simp [go_sem]
set_option maxHeartbeats 1000000 in
theorem lines64 (w : World) : Calls Try.prog 64 #[] w (LinC w) := by
  have HL := Lib.hid (lin_new w)
  go_enter Try.func64, Try.ntmps64
  go_wp2_with (go_at_call 84; refine (mk84 _ _).mono ?_; rintro e w1 ⟨rfl, rfl⟩)
  refine bodyPost_ret (v := .slice (some ⟨w.heap.size + 1 + 1 + 1 + 1, 0, none⟩) 9 9) (by simp [results, Try.results64, go_sem]) rfl ⟨⟨_, _, rfl, by omega, HL.out⟩, ?_⟩
  exact (((((Below.refl _ _).alloc (Nat.le_refl _) _).alloc (by simp) _).alloc (by simp; omega) _).alloc (by simp; omega) _).alloc (by simp; omega) _
end Go.Proofs.Ytomcpgdpjpjioaa
