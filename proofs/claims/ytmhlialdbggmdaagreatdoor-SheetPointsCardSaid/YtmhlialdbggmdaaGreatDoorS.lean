/- Contracts: the stable sort of nearest's indices. -/
import Derived.Test.YtmhlialdbggmdaaGreatDoorR
namespace Go.Proofs.YtmhlialdbggmdaaGreatDoor
open Go.RowKit Go.Proofs Go.Shelf

/-- What the sort leaves. -/
def Sorted (l : List St) (d : List Nat) (b : Nat) (w0 w : World) (e : Ending) (w' : World) : Prop :=
  (∃ r, e = .returned r) ∧ Kx w0 b w w' ∧ ∃ d', d'.Perm d ∧ d'.Pairwise (lx (sqAt l)) ∧ RowI w' b d'
theorem stable_any (pl : Nat) (l : List St) (v : Value) (d : List Nat) (b cap : Nat) (w0 w : World) (hv : w0.cell? ⟨pl, 0, none⟩ = some v) (hrow : RowS w0 v l) (hp : ∀ j (h : j < l.length), Play (l[j]'h).x (l[j]'h).y)
    (hd : ∀ x ∈ d, x < l.length) (hinc : d.Pairwise (· < ·)) (hb : w0.heap.size ≤ b) (h0 : Below w0.heap.size w0 w) (hI : RowI w b d) (hdl : d.length ≤ 19) (hcap : d.length ≤ cap) :
    Calls Tryz.prog 99 #[.slice (some ⟨b, 0, none⟩) d.length cap, .int .i64 d.length, .func (.func 84) #[] #[.pointer (some ⟨pl, 0, none⟩)]] w (Sorted l d b w0 w) := by
  have H := Lib.hid (insertion_any pl l v d b cap w0 w hv hrow hp hd hinc hb h0 hI (by omega) hcap)
  clear hv hrow hp hd hinc h0 hI
  have h1 : ¬ (20 : Int) ≤ (d.length : Int) := by omega
  have h2 : ¬ (20 : Int) < (d.length : Int) := by omega
  go_enter Tryz.func99, Tryz.ntmps99
  go_wp2_with fail
  go_loop [7, 8] (fun av bv => av = .int .i64 0 ∧ bv = .int .i64 20) (fun _ _ => 0)
  case atStart => exact ⟨rfl, rfl⟩
  case round =>
    obtain ⟨rfl, rfl⟩ := hrel
    go_wp2_with (go_at_call 113; refine H.out.mono ?_; rintro e w1 ⟨⟨r, rfl⟩, hk, hs⟩)
    go_loop [6] (fun av => av = .int .i64 20) (fun _ => 0)
    case atStart => rfl
    case round =>
      obtain rfl := hrel
      go_wp2_with fail
      go_end0
      exact ⟨⟨_, rfl⟩, hk, hs⟩
theorem sortStable_any (pl : Nat) (l : List St) (v : Value) (d : List Nat) (b cap : Nat) (w0 w : World) (hv : w0.cell? ⟨pl, 0, none⟩ = some v) (hrow : RowS w0 v l) (hp : ∀ j (h : j < l.length), Play (l[j]'h).x (l[j]'h).y)
    (hd : ∀ x ∈ d, x < l.length) (hinc : d.Pairwise (· < ·)) (hb : w0.heap.size ≤ b) (h0 : Below w0.heap.size w0 w) (hI : RowI w b d) (hdl : d.length ≤ 19) (hcap : d.length ≤ cap) :
    Calls Tryz.prog 83 #[.slice (some ⟨b, 0, none⟩) d.length cap, .func (.func 84) #[] #[.pointer (some ⟨pl, 0, none⟩)]] w (Sorted l d b w0 w) := by
  have H := Lib.hid (stable_any pl l v d b cap w0 w hv hrow hp hd hinc hb h0 hI hdl hcap)
  clear hv hrow hp hd hinc h0 hI
  go_enter Tryz.func83, Tryz.ntmps83
  go_wp2_with (go_at_call 99; refine H.out.mono ?_; rintro e w1 ⟨⟨r, rfl⟩, hk, hs⟩)
  go_end0
  exact ⟨⟨_, rfl⟩, hk, hs⟩
theorem insertion_nil (fv : Value) (w : World) : Calls Tryz.prog 113 #[.slice none 0 0, .int .i64 0, .int .i64 0, fv] w fun e w' => (∃ r, e = .returned r) ∧ w = w' := by
  go_enter Tryz.func113, Tryz.ntmps113
  go_wp2_with fail
  go_loop [8] (fun av => av = .int .i64 1) (fun _ => 0)
  case atStart => rfl
  case round =>
    obtain rfl := hrel
    go_wp2_with fail
    go_end0
    exact ⟨⟨_, rfl⟩, rfl⟩
theorem stable_nil (fv : Value) (w : World) : Calls Tryz.prog 99 #[.slice none 0 0, .int .i64 0, fv] w fun e w' => (∃ r, e = .returned r) ∧ w = w' := by
  go_enter Tryz.func99, Tryz.ntmps99
  go_wp2_with fail
  go_loop [7, 8] (fun av bv => av = .int .i64 0 ∧ bv = .int .i64 20) (fun _ _ => 0)
  case atStart => exact ⟨rfl, rfl⟩
  case round =>
    obtain ⟨rfl, rfl⟩ := hrel
    go_wp2_with (go_at_call 113; refine (insertion_nil fv _).mono ?_; rintro e w1 ⟨⟨r, rfl⟩, rfl⟩)
    go_loop [6] (fun av => av = .int .i64 20) (fun _ => 0)
    case atStart => rfl
    case round =>
      obtain rfl := hrel
      go_wp2_with fail
      go_end0
      exact ⟨⟨_, rfl⟩, rfl⟩
theorem sortStable_nil (fv : Value) (w : World) : Calls Tryz.prog 83 #[.slice none 0 0, fv] w fun e w' => (∃ r, e = .returned r) ∧ w = w' := by
  go_enter Tryz.func83, Tryz.ntmps83
  go_wp2_with (go_at_call 99; refine (stable_nil fv _).mono ?_; rintro e w1 ⟨⟨r, rfl⟩, rfl⟩)
  go_end0
  exact ⟨⟨_, rfl⟩, rfl⟩
end Go.Proofs.YtmhlialdbggmdaaGreatDoor
