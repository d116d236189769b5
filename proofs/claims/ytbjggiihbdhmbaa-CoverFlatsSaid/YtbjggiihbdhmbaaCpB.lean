/-
  Layer 22: holds: plain: pixels in order; are cells as they should be.
-/
import Derived.Test.YtbjggiihbdhmbaaCpA
import Derived.Test.YtbjggiihbdhmbaaCoZ
namespace Go.Proofs.Ytbjggiihbdhmbaa
open Go.RowKit Go.Shelf

def widN (b : B4) : Nat := (widB b).toNat
def higN (b : B4) : Nat := (b.y1 - b.y0).toNat
theorem wid_cast {b : B4} (h : BoxOk b) : (widN b : Int) = widB b := by have := h.wid; unfold widN; omega
theorem hig_cast {b : B4} (h : BoxOk b) : (higN b : Int) = b.y1 - b.y0 := by have := h.y; unfold higN; omega
theorem len_nat {b : B4} (h : BoxOk b) {cs : List Ce} (hl : (cs.length : Int) = widB b * (b.y1 - b.y0)) : cs.length = higN b * widN b := by
  rw [← wid_cast h, ← hig_cast h, ← Int.natCast_mul] at hl
  rw [Nat.mul_comm]
  exact Int.ofNat.inj hl
theorem step_lt {b : B4} {j m : Nat} (hj : j < higN b) (hm : m < widN b) : j * widN b + m < higN b * widN b := by
  have : (j + 1) * widN b ≤ higN b * widN b := Nat.mul_le_mul_right _ hj
  rw [Nat.add_mul] at this
  omega
theorem step_cell {b : B4} (h : BoxOk b) (cs : List Ce) {j m : Nat} (hj : j < higN b) (hm : m < widN b) :
    atC b cs (b.x0 + m) (b.y0 + j) = cs.getD (j * widN b + m) (0, 0) ∧
    clAt b cs (j * widN b + m) = if atC b cs (b.x0 + m) (b.y0 + j) = (0, 0) then none else some ⟨b.x0 + m, b.y0 + j, (atC b cs (b.x0 + m) (b.y0 + j)).1, (atC b cs (b.x0 + m) (b.y0 + j)).2⟩ := by
  have hw := wid_cast h
  have hh := hig_cast h
  have hwd : widB b = b.x1 - b.x0 + 1 := rfl
  have e1 : placeB b (b.x0 + m) (b.y0 + j) = true := by
    unfold placeB
    rw [Bool.and_eq_true, withinB_true, withinB_true]
    omega
  have e2 : placeN b (b.x0 + m) (b.y0 + j) = ((j * widN b + m : Nat) : Int) := by
    unfold placeN
    rw [← hw, show b.y0 + (j : Int) - b.y0 = j by omega, Int.natCast_add, Int.natCast_mul]
    omega
  have e3 : atC b cs (b.x0 + m) (b.y0 + j) = cs.getD (j * widN b + m) (0, 0) := by
    unfold atC
    rw [if_pos e1, e2, Int.toNat_natCast]
  refine ⟨e3, ?_⟩
  have hw0 : 0 < widN b := by omega
  have e4 : ((j * widN b + m : Nat) : Int) % widB b = m := by
    rw [← hw, ← Int.natCast_emod, Nat.mul_comm, Nat.mul_add_mod, Nat.mod_eq_of_lt hm]
  have e5 : ((j * widN b + m : Nat) : Int) / widB b = j := by
    rw [← hw, ← Int.natCast_ediv, Nat.mul_comm, Nat.mul_add_div hw0, Nat.div_eq_of_lt hm, Nat.add_zero]
  unfold clAt
  rw [e4, e5, e3]
def clC (c : Cl) : List Value := [.int .i64 c.x, .int .i64 c.y, .int .i64 c.c, .int .i64 c.a]
theorem acell_info : (Try.prog.info? 82).map (fun i => (i.zero, i.size, i.bytes)) = some (some (.agg #[.int .i64 0, .int .i64 0, .int .i64 0, .int .i64 0]), 4, 32) := by kernel_rfl
theorem eqIn_cell (w : World) (k : Nat) (a b c d a' b' c' d' : Int) : (Op.equalIn (k + 2) 82 (.agg #[.int .i64 a, .int .i64 b, .int .i64 c, .int .i64 d]) (.agg #[.int .i64 a', .int .i64 b', .int .i64 c', .int .i64 d'])).run Try.prog w = .ok (eq4 a b c d a' b' c' d') w := by
  unfold eq4
  by_cases h1 : a = a'
  · by_cases h2 : b = b'
    · by_cases h3 : c = c'
      · by_cases h4 : d = d' <;> simp [go_sem, h1, h2, h3, h4]
      · simp [go_sem, h1, h2, h3]
    · simp [go_sem, h1, h2]
  · simp [go_sem, h1]
@[go_sem ↓] theorem neq_cell (w : World) (a b c d a' b' c' d' : Int) : (binOp .neq 82 (.agg #[.int .i64 a, .int .i64 b, .int .i64 c, .int .i64 d]) (.agg #[.int .i64 a', .int .i64 b', .int .i64 c', .int .i64 d'])).run Try.prog w = .ok (.bool (!eq4 a b c d a' b' c' d')) w := by
  simp only [binOp]
  simp [Op.equal, Op.maxDepth, eqIn_cell w 9998]
section
variable {w w' : World} {g k kc ka : Nat} {b : B4} {cs : List Ce} {S : Nat → Prop}
theorem Cc.tn (h : Cc w g k b cs) (ht : Tn S w w') (h1 : ¬ S g) (h2 : ¬ S k) : Cc w' g k b cs := ⟨ht.blk h.blk h1, ht.blk h.row h2, h.len, h.box⟩
theorem Rc.tn (h : Rc w g kc ka b cs) (ht : Tn S w w') (h1 : ¬ S g) (h2 : ¬ S kc) (h3 : ¬ S ka) : Rc w' g kc ka b cs := ⟨ht.blk h.blk h1, ht.blk h.cov h2, ht.blk h.are h3, h.ne, h.len, h.box⟩
end
def smallB (b : B4) : Bool := decide (cellE b.x0 b.y0 b.x1 b.y1 = 0 ∧ (b.x1 - b.x0) * (b.y1 - b.y0) ≤ 4096)
set_option maxRecDepth 20000 in
set_option maxHeartbeats 4000000 in
theorem small_any (b : B4) (w : World) : Calls Try.prog 12 #[.agg #[.int .i64 b.x0, .int .i64 b.y0, .int .i64 b.x1, .int .i64 b.y1]] w fun e w' => e = .returned (.bool (smallB b)) ∧ Below w.heap.size w w' := by
  obtain ⟨x0, y0, x1, y1⟩ := b
  dsimp only
  have KM := fun w => cellBox_any x0 y0 x1 y1 w
  by_cases hc : cellE x0 y0 x1 y1 = 0
  · obtain ⟨_, he, he', k1, k2, k3, k4, hp2⟩ := cellE_zero.1 hc
    obtain ⟨hp1, -⟩ := prod_small he he' k1 k2 k3 k4
    have hsb : smallB ⟨x0, y0, x1, y1⟩ = decide ((x1 - x0) * (y1 - y0) ≤ 4096) := by unfold smallB; simp [hc]
    rw [hsb]
    rw [hc] at KM
    obtain ⟨m, hm⟩ : ∃ m, (x1 - x0) * (y1 - y0) = m := ⟨_, rfl⟩
    rw [hm] at hp1 hp2 ⊢
    have hw : wrap64 ((x1 - x0) * (y1 - y0)) = m := by rw [hm]; exact IntWalk.wrap64_in _ (by omega)
    have HM := Lib.hid KM
    clear KM hc hsb hm
    go_enter Try.func12, Try.ntmps12
    go_wp2_with (first | (go_at_call 11; refine (HM.out _).mono ?_; rintro e w1 ⟨rfl, hb1⟩; obtain ⟨hc1, hf1, hz1⟩ := bcell hb1; (try simp at hz1)))
    go_ret
    refine ⟨rfl, Bel.below ?_⟩
    repeat (first | with_reducible exact bel_refl | with_reducible apply bel_alloc | with_reducible apply bel_drewN | with_reducible apply bel_drew | (with_reducible refine bel_set ?_ ?_; rotate_left; · first | (simp; done) | (simp; omega) | omega) | with_reducible refine bel_call (by assumption) ?_)
  · have hsb : smallB ⟨x0, y0, x1, y1⟩ = false := by unfold smallB; simp [hc]
    rw [hsb]
    obtain ⟨e, he⟩ : ∃ e, cellE x0 y0 x1 y1 = e := ⟨_, rfl⟩
    rw [he] at KM hc
    have hc2 : (e == 0) = false := by simpa using hc
    have HM := Lib.hid KM
    clear KM he hsb
    go_enter Try.func12, Try.ntmps12
    go_wp2_with (first | (go_at_call 11; refine (HM.out _).mono ?_; rintro e w1 ⟨rfl, hb1⟩; obtain ⟨hc1, hf1, hz1⟩ := bcell hb1; (try simp at hz1)))
    go_ret
    refine ⟨rfl, Bel.below ?_⟩
    repeat (first | with_reducible exact bel_refl | with_reducible apply bel_alloc | with_reducible apply bel_drewN | with_reducible apply bel_drew | (with_reducible refine bel_set ?_ ?_; rotate_left; · first | (simp; done) | (simp; omega) | omega) | with_reducible refine bel_call (by assumption) ?_)
end Go.Proofs.Ytbjggiihbdhmbaa
