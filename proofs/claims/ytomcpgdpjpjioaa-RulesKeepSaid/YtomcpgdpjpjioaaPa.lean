/- Contract: part. Plain: what more protection does. -/
import Derived.Test.YtomcpgdpjpjioaaPt
namespace Go.Proofs.Ytomcpgdpjpjioaa
open Go.RowKit Go.Proofs Go.Shelf
attribute [local go_sem] Oper.semAt_some

def hasN (d : List Nat) (x : Nat) : Bool := d.any (fun y => x == y)
theorem hasN_step (d : List Nat) (x : Nat) {k : Nat} (h : k < d.length) : hasN (d.take (k + 1)) x = (hasN (d.take k) x || (x == d[k]'h)) := by
  unfold hasN; rw [List.take_succ_eq_append_getElem h, List.any_append]; simp
theorem hasN_mem {d : List Nat} {x : Nat} (h : x ∈ d) : hasN d x = true := by
  unfold hasN; rw [List.any_eq_true]; exact ⟨x, h, by simp⟩
set_option maxHeartbeats 2000000 in
theorem part_any (d1 d2 : List Nat) (b1 b2 : Nat) (v u : Value) (w : World) (h1 : OwnN b1 w v d1) (h2 : OwnN b2 w u d2) (hd : d1.length ≤ 1000) (hd2 : d2.length ≤ 1000) (hsub : ∀ x ∈ d1, x ∈ d2) :
    Calls Try.prog 29 #[v, u] w (Back (.bool true) w) := by
  obtain ⟨A1, c1, rfl, k1, m1, -, g1⟩ := h1
  obtain ⟨A2, c2, rfl, k2, m2, -, g2⟩ := h2
  have HG1 := Lib.hid g1
  have HG2 := Lib.hid g2
  have HS := Lib.hid hsub
  clear g1 g2 hsub
  go_enter Try.func29, Try.ntmps29
  go_wp2_with fail
  go_loopw [5] (fun iv wr => ∃ k : Nat, k ≤ d1.length ∧ iv = .int .i64 k ∧ Below w.heap.size w wr) (fun iv _ => d1.length - (intOf iv).toNat)
  case atStart => exact ⟨0, by omega, rfl, Below.refl _ _⟩
  case round =>
    obtain ⟨k, hk, rfl, hb⟩ := hrel
    have HB := Lib.hid hb
    clear hb
    rename World => w1
    by_cases hlt : k < d1.length
    · have hlt' : (k : Int) < (d1.length : Int) := by omega
      obtain ⟨g, rfl, -, hc⟩ := HG1.out (by intro h; subst h; simp at hlt)
      have a0 := ((hc.up HB.out) k hlt).1
      have hin := HS.out _ (List.getElem_mem hlt)
      obtain ⟨x, hx⟩ : ∃ x, d1[k]'hlt = x := ⟨_, rfl⟩
      rw [hx] at a0 hin
      have HIN := Lib.hid (hasN_mem hin)
      have A0 := Lib.hid a0
      clear hx hc hin a0
      go_wp2_with fail
      go_loopw [6, 7] (fun bv jv wr => ∃ j : Nat, j ≤ d2.length ∧ jv = .int .i64 j ∧ bv = .bool (hasN (d2.take j) x) ∧ Below w1.heap.size w1 wr) (fun _ jv _ => d2.length - (intOf jv).toNat)
      case atStart => exact ⟨0, by omega, rfl, rfl, Below.refl _ _⟩
      case round =>
        obtain ⟨j, hj, rfl, rfl, hb2⟩ := hrel
        have HB2 := Lib.hid hb2
        clear hb2
        by_cases hjl : j < d2.length
        · have hjl' : (j : Int) < (d2.length : Int) := by omega
          obtain ⟨g', rfl, -, hc'⟩ := HG2.out (by intro h; subst h; simp at hjl)
          have a1 := (((hc'.up HB.out).up HB2.out) j hjl).1
          have a0 := upc A0.out HB2.out
          have hst := hasN_step d2 x hjl
          obtain ⟨y, hy⟩ : ∃ y, d2[j]'hjl = y := ⟨_, rfl⟩
          rw [hy] at a1 hst
          obtain ⟨q, hq⟩ : ∃ q, hasN (d2.take j) x = q := ⟨_, rfl⟩
          rw [hq] at hst
          obtain ⟨r, hr⟩ : ∃ r, ((x : Int) == (y : Int)) = r := ⟨_, rfl⟩
          have hxy : (x == y) = r := by
            rw [← hr, Bool.eq_iff_iff]; simp; omega
          rw [hxy] at hst
          have HST := Lib.hid hst
          rw [hq]
          clear hst hxy hy hq hc'
          cases q
          all_goals
            go_wp2_with fail
            go_quiet (fail)
            go_wp2_with fail
            go_roundw
            case rel => exact ⟨j + 1, by omega, by go_num, by rw [HST.out]; simp, below_drewN HB2.out _⟩
            case measure => simp [intOf]; omega
        · obtain rfl : j = d2.length := by omega
          have hf := HIN.out
          rw [List.take_length]
          rw [hf]
          have HB3 := Lib.hid (HB.out.trans (HB2.out.mono HB.out.size))
          go_wp2_with fail
          go_roundw
          case rel => exact ⟨k + 1, by omega, by go_num, HB3.out⟩
          case measure => simp [intOf]; omega
    · obtain rfl : k = d1.length := by omega
      go_wp2_with fail
      go_ret
      exact ⟨rfl, HB.out⟩
theorem wK_mem {p : St → Bool} {l : List St} {j : Nat} : ∀ {k : Nat}, k ≤ l.length → (j ∈ wK p l k ↔ j < k ∧ ∃ h : j < l.length, p (l[j]'h) = true) := by
  intro k
  induction k with
  | zero => intro _; simp [wK]
  | succ k ih =>
    intro hk
    have hlt : k < l.length := by omega
    rw [wK_step hlt, List.mem_append, ih (by omega)]
    by_cases hp : p (l[k]'hlt) = true
    · rw [if_pos hp, List.mem_singleton]
      constructor
      · rintro (⟨h1, h2⟩ | rfl)
        · exact ⟨by omega, h2⟩
        · exact ⟨by omega, hlt, hp⟩
      · rintro ⟨h1, h2⟩
        by_cases e : j = k
        · exact .inr e
        · exact .inl ⟨by omega, h2⟩
    · rw [if_neg hp]
      constructor
      · rintro (⟨h1, h2⟩ | h)
        · exact ⟨by omega, h2⟩
        · cases h
      · rintro ⟨h1, h2⟩
        by_cases e : j = k
        · subst e; obtain ⟨h3, h4⟩ := h2; exact absurd h4 hp
        · exact .inl ⟨by omega, h2⟩
theorem wK_sub {p q : St → Bool} {l : List St} (h : ∀ s, p s = true → q s = true) : ∀ x ∈ wK p l l.length, x ∈ wK q l l.length := by
  intro x hx
  rw [wK_mem (Nat.le_refl _)] at hx ⊢
  obtain ⟨h1, h2, h3⟩ := hx
  exact ⟨h1, h2, h _ h3⟩
theorem kpB_le {c c' : Cd} {n n' team : Int} (hs : c.s ≤ c'.s) (hf : c.f ≤ c'.f) (hn : n' ≤ n) (s : St) (h : kpB c n team s = true) : kpB c' n' team s = true := by
  unfold kpB at h ⊢
  simp only [Bool.or_eq_true, Bool.and_eq_true, decide_eq_true_eq] at h ⊢
  rcases h with h | ⟨h, h2⟩
  · exact .inl (by omega)
  · exact .inr ⟨by omega, h2⟩
theorem fxB_le {c c' : Cd} {n n' team : Int} (ht : c.t ≤ c'.t) (hn : n' ≤ n) (s : St) (h : fxB c n team s = true) : fxB c' n' team s = true := by
  unfold fxB at h ⊢
  simp only [Bool.and_eq_true, decide_eq_true_eq] at h ⊢
  exact ⟨⟨by omega, h.1.2⟩, h.2⟩
end Go.Proofs.Ytomcpgdpjpjioaa
