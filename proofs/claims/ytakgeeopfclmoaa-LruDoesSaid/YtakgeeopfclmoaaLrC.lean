/-
  Layer 25: a cache in memory: its block, its slots, its free list, its map; what a call may turn.
-/
import Derived.Test.YtakgeeopfclmoaaLrB
import Derived.Test.YtakgeeopfclmoaaCvB
import Derived.Test.YtakgeeopfclmoaaOw
import Derived.Laws.OwnMore
import Derived.DeepKeys4
import Derived.Maps.OwnSet
namespace Go.Proofs.Ytakgeeopfclmoaa
open Go.RowKit Go.Maps

/-! ### The key's type -/
theorem key_law : Keyed Try.prog 24 := Keyed.of_law (deep_law_laid (by kernel_rfl) (m := 2) (by omega) (of_decide_eq_true (by kernel_rfl)) (by kernel_rfl) (by kernel_rfl))
def kv (k : K4) : Value := .agg #[.int .i64 k.g, .int .i64 k.p, .int .i64 k.x, .int .i64 k.y]
def klit (k : K4) : Lit := .string (keyBytes [.int .i64 k.g, .int .i64 k.p, .int .i64 k.x, .int .i64 k.y])
def in64 (x : Int) : Prop := (Lit.int .i64 x).wf = true
structure K4.wf (k : K4) : Prop where
  g : in64 k.g
  p : in64 k.p
  x : in64 k.x
  y : in64 k.y
theorem key_type : Try.prog.keyType 24 = true := by kernel_rfl
theorem key_cells : Try.prog.cellsOf 24 = 4 := by kernel_rfl
theorem int_cells : Try.prog.cellsOf 3 = 1 := by kernel_rfl
set_option maxRecDepth 20000 in
theorem keyLits_key (n : Nat) (a b c d : Int) (ha : in64 a) (hb : in64 b) (hc : in64 c) (hd : in64 d) :
    Try.prog.keyLits (n + 2) 24 [.int .i64 a, .int .i64 b, .int .i64 c, .int .i64 d] = some [.int .i64 a, .int .i64 b, .int .i64 c, .int .i64 d] := by
  unfold in64 at ha hb hc hd
  have one : ∀ x, (Lit.int .i64 x).wf = true → Try.prog.keyLits (n + 1) 3 [.int .i64 x] = some [.int .i64 x] := fun x hx => by
    unfold Program.keyLits
    rw [Try.underlying3]
    simp [hx]
  unfold Program.keyLits
  rw [Try.underlying24]
  simp [key_cells, int_cells, one a ha, one b hb, one c hc, one d hd]
theorem key_size : ∃ n, Try.prog.types.size + 1 = n + 2 := ⟨Try.prog.types.size - 1, by have : 1 ≤ Try.prog.types.size := of_decide_eq_true (by kernel_rfl); omega⟩
theorem keyOf_kv (k : K4) (h : k.wf) : keyOf Try.prog 24 (kv k) = some (klit k) := by
  obtain ⟨n, hn⟩ := key_size
  have hl := keyLits_key n k.g k.p k.x k.y h.g h.p h.x h.y
  unfold keyOf
  rw [Try.underlying24, key_type, hn]
  have hf : (kv k).formed Try.prog 24 = true := by simp [kv, Value.formed, Try.underlying24, key_cells]
  show (if (true && (kv k).formed Try.prog 24) = true then _ else none) = _
  rw [hf, if_pos (by rfl), show (kv k).cells.toList = [.int .i64 k.g, .int .i64 k.p, .int .i64 k.x, .int .i64 k.y] from rfl, hl]
  rfl
theorem key_lit (k : K4) : WideAt.IsKeyLit (klit k) := trivial
theorem klit_inj {a b : K4} (ha : a.wf) (hb : b.wf) (h : klit a = klit b) : a = b := by
  have h1 := keyOf_kv a ha
  have h2 := keyOf_kv b hb
  rw [← h] at h2
  have := key_law.inj h1 h2
  simp only [kv, Value.agg.injEq, Array.mk.injEq, List.cons.injEq, Value.int.injEq, true_and, and_true] at this
  obtain ⟨e1, e2, e3, e4⟩ := this
  cases a; cases b
  simp_all

/-! ### The map, as entries -/
def enc1 (p : K4 × Nat) : Lit × DataW Unit := (klit p.1, .lit (.int .i64 p.2))
def mapD (E : List (K4 × Nat)) : DataW Unit := .map ((E.map enc1).foldr DataW.insert [])
structure MapOk (E : List (K4 × Nat)) : Prop where
  wf : ∀ p ∈ E, p.1.wf
  nodup : (E.map (·.1)).Nodup
  small : ∀ p ∈ E, p.2 ≤ 262145
theorem enc_keys {E : List (K4 × Nat)} (h : MapOk E) : Maps.Keys (KeysOf Try.prog 24) (E.map enc1) := by
  intro p hp
  obtain ⟨q, hq, rfl⟩ := List.mem_map.1 hp
  exact ⟨_, keyOf_kv _ (h.wf q hq)⟩
theorem enc_apart {E : List (K4 × Nat)} (h : MapOk E) : (E.map enc1).Pairwise (fun p q => p.1 ≠ q.1) := by
  rw [List.pairwise_map]
  have hn : E.Pairwise (fun a b => a.1 ≠ b.1) := by have := h.nodup; unfold List.Nodup at this; rwa [List.pairwise_map] at this
  have : E.Pairwise (fun a b => a ∈ E ∧ b ∈ E ∧ a.1 ≠ b.1) := List.Pairwise.imp_of_mem (fun ha hb h => ⟨ha, hb, h⟩) hn
  exact this.imp fun ⟨ha, hb, hne⟩ e => hne (klit_inj (h.wf _ ha) (h.wf _ hb) e)
theorem mapD_perm {E E' : List (K4 × Nat)} (h : MapOk E) (hp : E'.Perm E) : mapD E' = mapD E := by
  have h' : MapOk E' := ⟨fun p hp' => h.wf p (hp.mem_iff.1 hp'), (hp.map (·.1)).nodup_iff.2 h.nodup, fun p hp' => h.small p (hp.mem_iff.1 hp')⟩
  unfold mapD
  congr 1
  exact ChangeMaps.eq_of_perm_sorted ((WideShapes.sorted_perm _).trans ((hp.map enc1).trans (WideShapes.sorted_perm _).symm)) (sorted_sorted key_law.one _ (enc_keys h') (enc_apart h')) (sorted_sorted key_law.one _ (enc_keys h) (enc_apart h))

theorem mapD_size (E : List (K4 × Nat)) : Maps.size (mapD E) = E.length := by simp [Maps.size, mapD, length_sorted]
/-- An entry goes. -/
theorem mapD_del {X Y : List (K4 × Nat)} {k : K4} {i : Nat} (h : MapOk (X ++ (k, i) :: Y)) : (mapD (X ++ (k, i) :: Y)).del (klit k) = mapD (X ++ Y) := by
  have hk := h.wf (k, i) (by simp)
  have hnd := h.nodup
  rw [List.map_append, List.map_cons] at hnd
  have hnd2 := (List.nodup_cons.1 ((List.perm_middle).nodup_iff.1 hnd)).1
  have hfil : ((X ++ (k, i) :: Y).map enc1).filter (ChangeMaps.notKey (klit k)) = (X ++ Y).map enc1 := by
    have hkey : WideAt.IsKeyLit (klit k) := key_lit k
    have keep : ∀ q ∈ X ++ Y, ChangeMaps.notKey (klit k) (enc1 q) = true := fun q hq => by
      refine (notKey_iff hkey).2 fun e => ?_
      have hw : q.1.wf := h.wf q (by
        rcases List.mem_append.1 hq with hq | hq
        · simp [hq]
        · simp [hq])
      have e1 : q.1 = k := klit_inj hw hk e
      refine hnd2 ?_
      rw [← List.map_append]
      exact List.mem_map.2 ⟨q, hq, e1⟩
    rw [List.map_append, List.map_cons, List.filter_append, List.filter_cons, if_neg (by simpa using fun h1 => (notKey_iff hkey).1 h1 rfl), ← List.filter_append, ← List.map_append]
    exact List.filter_eq_self.2 fun q hq => by
      obtain ⟨q', hq', rfl⟩ := List.mem_map.1 hq
      exact keep q' hq'
  show DataW.del (.map _) _ = .map _
  rw [DataW.del_eq]
  congr 1
  exact (sorted_del key_law.one (enc_keys h) (enc_apart h) (by rw [hfil])).symm
/-- An entry comes. -/
theorem mapD_put {E : List (K4 × Nat)} {k : K4} {i : Nat} (h : MapOk ((k, i) :: E)) : (mapD E).put (klit k) (.lit (.int .i64 i)) = mapD ((k, i) :: E) := by
  have hk := h.wf (k, i) (by simp)
  have hE : MapOk E := ⟨fun p hp => h.wf p (by simp [hp]), (List.nodup_cons.1 h.nodup).2, fun p hp => h.small p (by simp [hp])⟩
  have hnk := (List.nodup_cons.1 h.nodup).1
  have hkey : WideAt.IsKeyLit (klit k) := key_lit k
  have hfil : (E.map enc1).filter (ChangeMaps.notKey (klit k)) = E.map enc1 := List.filter_eq_self.2 fun q hq => by
    obtain ⟨q', hq', rfl⟩ := List.mem_map.1 hq
    refine (notKey_iff hkey).2 fun e => ?_
    have e1 : q'.1 = k := klit_inj (hE.wf q' hq') hk e
    exact hnk (List.mem_map.2 ⟨q', hq', e1⟩)
  show DataW.put (.map _) _ _ = .map _
  rw [DataW.put_eq]
  congr 1
  exact (sorted_put key_law.one ⟨_, keyOf_kv k hk⟩ (enc_keys hE) (enc_apart hE) (by rw [hfil]; exact List.Perm.refl _)).symm

theorem mapD_has {E : List (K4 × Nat)} {k : K4} {i : Nat} (h : MapOk E) (hm : (k, i) ∈ E) : Maps.has (mapD E) (klit k) = true ∧ ∀ z, (mapD E).atKey (klit k) z = .lit (.int .i64 i) := by
  obtain ⟨X, Y, rfl⟩ := List.append_of_mem hm
  have hp : (X ++ (k, i) :: Y).Perm ((k, i) :: (X ++ Y)) := List.perm_middle
  have h' : MapOk ((k, i) :: (X ++ Y)) := ⟨fun p hp' => h.wf p (hp.mem_iff.2 hp'), (hp.map (·.1)).nodup_iff.1 h.nodup, fun p hp' => h.small p (hp.mem_iff.2 hp')⟩
  rw [← mapD_perm h hp.symm, ← mapD_put h']
  exact ⟨has_put_same ⟨_, rfl⟩ (key_lit k) _, fun z => atKey_put_same ⟨_, rfl⟩ (key_lit k) _ z⟩
theorem mapD_not {E : List (K4 × Nat)} {k : K4} (h : MapOk E) (hk : k.wf) (hm : k ∉ E.map (·.1)) : Maps.has (mapD E) (klit k) = false := by
  show ((E.map enc1).foldr DataW.insert []).any _ = false
  rw [List.any_eq_false]
  intro p hp
  obtain ⟨q, hq, rfl⟩ := List.mem_map.1 ((WideShapes.sorted_perm _).mem_iff.1 hp)
  intro hs
  have := klit_inj (h.wf q hq) hk (WideAt.sameKey_eq hs)
  exact hm (by rw [← this]; exact List.mem_map.2 ⟨q, hq, rfl⟩)

end Go.Proofs.Ytakgeeopfclmoaa
