/-
  A writer of one's own beside boxes, that may run full: its calls.
-/
import Derived.Test.YtejombofjakllaaBs
import Derived.Test.YtejombofjakllaaWireD
import Derived.Test.YtejombofjakllaaTail
import Derived.Test.YtejombofjakllaaRead
import Derived.Test.YtejombofjakllaaBytes
namespace Go.Proofs.Ytejombofjakllaa
open Go.RowKit

theorem to_E (w : World) (room : Int) :
    Calls Try.prog 24 #[.int .i64 room] w fun e w' => ∃ g, w.heap.size ≤ g ∧ e = .returned (.pointer (some ⟨g, 0, none⟩)) ∧ Wr 74 w' g [] (max room 0) false none 0 ∧ Below w.heap.size w w' :=
  (to_W w room).mono fun _ _ ⟨he, hb, hr⟩ => ⟨_, Nat.le_refl _, he, hr, hb⟩
theorem putF_fit {room : Int} {bs news : List UInt8} (h : (bs.length : Int) + news.length ≤ room) : putF room (bs, false) news = (bs ++ news, false) := by
  have : fullF bs room false news.length = false := by simp [fullF]; omega
  simp [putF, this]

theorem WrS.rowB {T : TypeId} {w0 w : World} {g : Nat} {s : List UInt8 × Bool} {room : Int} {row0 : Option Nat} {A : Option Addr} {c B : Nat} (h : WrS T w0 w g s room row0 A c) (hB : B ≤ w0.heap.size) (hr : ∀ k, row0 = some k → B ≤ k) : ∀ k, rowOf A = some k → B ≤ k := by
  intro k e
  rcases h.row with e2 | e2
  · exact hr k (e2 ▸ e)
  · exact Nat.le_trans hB (e2 k e)
theorem WrS.belB {T : TypeId} {w0 w a : World} {g : Nat} {s : List UInt8 × Bool} {room : Int} {row0 : Option Nat} {A : Option Addr} {c B : Nat} (h : WrS T w0 w g s room row0 A c) (ha : Below B a w0) (hB : B ≤ w0.heap.size) (hg : B ≤ g) (hr : ∀ k, row0 = some k → B ≤ k) : Below B a w :=
  ha.trans (h.turn.below hB hg hr)

def PutOk (room : Int) (s : List UInt8 × Bool) (N : List UInt8) : Prop := (s = (N, false) ∧ (N.length : Int) ≤ room) ∨ (s.2 = true ∧ room < (N.length : Int))
theorem PutOk.next {room : Int} {s : List UInt8 × Bool} {N : List UInt8} (h : PutOk room s N) (M : List UInt8) : PutOk room (putF room s M) (N ++ M) := by
  rcases h with ⟨rfl, h⟩ | ⟨h1, h2⟩
  · by_cases hf : (N.length : Int) + M.length ≤ room
    · rw [putF_fit hf]; exact .inl ⟨rfl, by simp; omega⟩
    · have : fullF N room false M.length = true := by simp [fullF]; omega
      exact .inr ⟨by simp [putF, this], by simp; omega⟩
  · have : fullF s.1 room s.2 M.length = true := by simp [fullF, h1]
    exact .inr ⟨by simp [putF, this], by simp; omega⟩

/-- A writer of one's own behind N, beside boxes. -/
def IW (B : Nat) (w0 w : World) (g : Nat) (N : List UInt8) (room : Int) (bx : List (Nat × Obj)) : Prop :=
  ∃ s A c, Wr 74 w g s.1 room s.2 A c ∧ PutOk room s N ∧ Below B w0 w ∧ B ≤ g ∧ (∀ k, rowOf A = some k → B ≤ k) ∧ (s.1.length : Int) ≤ room ∧ ∀ p ∈ bx, w.heap[p.1]? = some p.2 ∧ p.1 ≠ g ∧ rowOf A ≠ some p.1
section
variable {B : Nat} {w0 w w' : World} {g : Nat} {N : List UInt8} {room : Int} {bx : List (Nat × Obj)}
theorem lt_of_heap {b : Nat} {o : Obj} (h : w.heap[b]? = some o) : b < w.heap.size := by
  rcases Nat.lt_or_ge b w.heap.size with h' | h'
  · exact h'
  · rw [Array.getElem?_eq_none h'] at h; cases h
theorem IW.below (h : IW B w0 w g N room bx) : Below B w0 w := by obtain ⟨_, _, _, _, _, h, _⟩ := h; exact h
theorem IW.size (h : IW B w0 w g N room bx) : B ≤ w.heap.size := by
  obtain ⟨_, _, _, hw, _, _, h, _⟩ := h
  have := hw.blk.lt
  omega
theorem IW.box (h : IW B w0 w g N room bx) {p : Nat × Obj} (hp : p ∈ bx) : w.heap[p.1]? = some p.2 := by obtain ⟨_, _, _, _, _, _, _, _, _, h⟩ := h; exact (h p hp).1
theorem IW.keep (h : IW B w0 w g N room bx) (hb : Below w.heap.size w w') : IW B w0 w' g N room bx := by
  have hB := h.size
  obtain ⟨s, A, c, h1, h2, h3, h4, h5, h6, h7⟩ := h
  exact ⟨s, A, c, h1.keep hb, h2, h3.trans (hb.mono hB), h4, h5, h6, fun p hp => ⟨(hb.block p.1 (lt_of_heap (h7 p hp).1)).trans (h7 p hp).1, (h7 p hp).2⟩⟩
theorem IW.new (h : IW B w0 w g N room bx) (o : Obj) : IW B w0 (w.alloc o) g N room ((w.heap.size, o) :: bx) := by
  have h' := h.keep (bel_alloc (o := o) (bel_refl (a := w))).below
  obtain ⟨s, A, c, h1, h2, h3, h4, h5, h6, h7⟩ := h
  obtain ⟨_, _, _, _, _, h3', _⟩ := h'
  refine ⟨s, A, c, h1.alloc o, h2, h3', h4, h5, h6, fun p hp => ?_⟩
  rcases List.mem_cons.1 hp with rfl | hp
  · exact ⟨heap_alloc_new w o, Nat.ne_of_gt h1.blk.lt, fun e => by have := h1.row_lt _ e; omega⟩
  · exact ⟨(Below.heap_alloc w o p.1 (lt_of_heap (h7 p hp).1)).trans (h7 p hp).1, (h7 p hp).2⟩
theorem IW.call (s : List UInt8 × Bool) (A : Option Addr) (c : Nat) (h1 : Wr 74 w g s.1 room s.2 A c) (h2 : PutOk room s N) (h3 : Below B w0 w) (h4 : B ≤ g) (h5 : ∀ k, rowOf A = some k → B ≤ k) (h7 : ∀ p ∈ bx, w.heap[p.1]? = some p.2 ∧ p.1 ≠ g ∧ rowOf A ≠ some p.1)
    {M : List UInt8} {A' : Option Addr} {c' : Nat} (hx : WrS 74 w w' g (putF room s M) room (rowOf A) A' c') : IW B w0 w' g (N ++ M) room bx := by
  have hB : B ≤ w.heap.size := by have := h1.blk.lt; omega
  refine ⟨_, A', c', hx.wr, h2.next M, hx.belB h3 hB h4 h5, h4, hx.rowB hB h5, hx.fit, fun p hp => ⟨(hx.turn.block p.1 (lt_of_heap (h7 p hp).1) (h7 p hp).2.1 (fun e => (h7 p hp).2.2 e.symm)).trans (h7 p hp).1, (h7 p hp).2.1, fun e => ?_⟩⟩
  rcases hx.row with e2 | e2
  · exact (h7 p hp).2.2 (e2 ▸ e)
  · have := e2 _ e
    have := lt_of_heap (h7 p hp).1
    omega
theorem IW.store {b : Nat} {t : TypeId} {cs : Array Value} (h : IW B w0 w g N room ((b, .cells cs t (0, 0)) :: bx)) (hb : ∀ p ∈ bx, p.1 ≠ b) (hB : B ≤ b) (i : Nat) (v : Value) : IW B w0 (w.setCell ⟨b, i, none⟩ v) g N room ((b, .cells (cs.setIfInBounds i v) t (0, 0)) :: bx) := by
  obtain ⟨s, A, c, h1, h2, h3, h4, h5, h6, h7⟩ := h
  have hx := h7 _ (List.mem_cons_self)
  refine ⟨s, A, c, h1.frame fun k hk => ?_, h2, h3.setCell hB v, h4, h5, h6, fun p hp => ?_⟩
  · refine Below.heap_setCell w ⟨b, i, none⟩ v k (fun e => ?_)
    simp only at e
    rcases hk with rfl | hk
    · exact hx.2.1 e.symm
    · exact hx.2.2 (e ▸ hk)
  · rcases List.mem_cons.1 hp with rfl | hp
    · exact ⟨by simp [World.setCell, Array.getElem?_modify, hx.1], hx.2⟩
    · exact ⟨(Below.heap_setCell w ⟨b, i, none⟩ v p.1 (fun e => hb p hp e)).trans (h7 p (List.mem_cons_of_mem _ hp)).1, (h7 p (List.mem_cons_of_mem _ hp)).2⟩
theorem IW.first {b : Nat} {t : TypeId} {v : Value} (h : IW B w0 w g N room ((b, .cells #[v] t (0, 0)) :: bx)) : w.cell? ⟨b, 0, none⟩ = some v ∧ w.frozen? ⟨b, 0, none⟩ = false ∧ b < w.heap.size := by
  have hb : Blk w b t [v] := h.box (p := (b, .cells #[v] t (0, 0))) List.mem_cons_self
  exact ⟨hb.cell 0, hb.frozen 0, hb.lt⟩
theorem IW.aft {W : World} (h : IW W.heap.size W w g N room bx) : Aft W w := h.below
theorem to_I (W u : World) (room : Int) (hr : 0 ≤ room) (h : Aft W u) (bx : List (Nat × Obj)) (hbx : ∀ p ∈ bx, u.heap[p.1]? = some p.2) :
    Calls Try.prog 24 #[.int .i64 room] u fun e w' => ∃ g, e = .returned (.pointer (some ⟨g, 0, none⟩)) ∧ IW W.heap.size W w' g [] room bx := by
  refine (to_E u room).mono ?_
  rintro e w' ⟨g, hg, rfl, hw, hb⟩
  rw [Int.max_eq_left hr] at hw
  exact ⟨g, rfl, ([], false), none, 0, hw, .inl ⟨rfl, by simpa using hr⟩, h.call hb, Nat.le_trans h.size hg, (fun k e => (by cases e)), by simpa using hr,
    fun p hp => ⟨(hb.block p.1 (lt_of_heap (hbx p hp))).trans (hbx p hp), Nat.ne_of_lt (Nat.lt_of_lt_of_le (lt_of_heap (hbx p hp)) hg), (fun e => (by cases e))⟩⟩
theorem u16_I (h : IW B w0 w g N room bx) (hr : 0 ≤ room) (hr2 : room ≤ 1099511627776) (x : Int) :
    Calls Try.prog 48 #[.pointer (some ⟨g, 0, none⟩), .int .i64 x] w fun e w' => e = .returned (.pointer (some ⟨g, 0, none⟩)) ∧ IW B w0 w' g (N ++ beB 2 x) room bx := by
  obtain ⟨s, A, c, h1, h2, h3, h4, h5, h6, h7⟩ := h
  exact (u16_W w g s room A c x h1 hr hr2 h6).mono fun _ _ ⟨he, A', c', hx⟩ => ⟨he, IW.call s A c h1 h2 h3 h4 h5 h7 hx⟩
theorem u32_I (h : IW B w0 w g N room bx) (hr : 0 ≤ room) (hr2 : room ≤ 1099511627776) (x : Int) :
    Calls Try.prog 30 #[.pointer (some ⟨g, 0, none⟩), .int .i64 x] w fun e w' => e = .returned (.pointer (some ⟨g, 0, none⟩)) ∧ IW B w0 w' g (N ++ beB 4 x) room bx := by
  obtain ⟨s, A, c, h1, h2, h3, h4, h5, h6, h7⟩ := h
  exact (u32_W w g s room A c x h1 hr hr2 h6).mono fun _ _ ⟨he, A', c', hx⟩ => ⟨he, IW.call s A c h1 h2 h3 h4 h5 h7 hx⟩
theorem data_I (h : IW B w0 w g N room bx) (hr : 0 ≤ room) (hr2 : room ≤ 1099511627776) (A0 : Option Addr) (m c0 : Nat) (bs : List UInt8) (hm : bs.length = m) (hs : SlAt w A0 m (bs.map byteV)) (hg : 0 < m → ∀ k, rowOf A0 = some k → k < B) :
    Calls Try.prog 26 #[.pointer (some ⟨g, 0, none⟩), .slice A0 m c0] w fun e w' => e = .returned (.pointer (some ⟨g, 0, none⟩)) ∧ IW B w0 w' g (N ++ bs) room bx := by
  obtain ⟨s, A, c, h1, h2, h3, h4, h5, h6, h7⟩ := h
  subst hm
  exact (data_W0 w g s room A c bs A0 c0 h1 hr hr2 h6 hs (fun h0 e => by have := hg h0 _ e; omega)).mono fun _ _ ⟨he, A', c', hx⟩ => ⟨he, IW.call s A c h1 h2 h3 h4 h5 h7 hx⟩
end
section
variable {B : Nat} {w0 w w' : World} {g : Nat} {N : List UInt8} {room : Int} {bx : List (Nat × Obj)}
theorem done_I (h : IW B w0 w g N room bx) (hN : (N.length : Int) ≤ room) (hn : N.length ≤ 140737488355328) :
    Calls Try.prog 29 #[.pointer (some ⟨g, 0, none⟩)] w fun e w' => ∃ A' c', e = .returned (.tuple #[.slice A' N.length c', .int .i64 0]) ∧ SlAt w' A' N.length (N.map byteV) ∧ Below w.heap.size w w' ∧ (∀ k, rowOf A' = some k → w.heap.size ≤ k) ∧ N.length ≤ c' := by
  obtain ⟨s, A, c, h1, h2, h3, h4, h5, h6, h7⟩ := h
  rcases h2 with ⟨rfl, _⟩ | ⟨_, h⟩
  · exact done_c w g N room A c h1 hn
  · omega
end
end Go.Proofs.Ytejombofjakllaa
