/- Watching a slot: the law. -/
import Derived.Test.YtjncpgcbgdkflaaWaW
set_option linter.unusedVariables false
set_option linter.unusedSectionVars false
set_option linter.unusedSimpArgs false
namespace Go.Proofs.Ytjncpgcbgdkflaa
open Go Go.AM
namespace Wa
section
variable {l : List E} {nl : Option Bool} {tg : Bool}

theorem call16o {zs : List Int} {n1 : Option Bool} {t1 : Bool} {o : AV} {H : Heap} (hb : zs.length < 2 ^ 40) (ho : Lst 1 o H zs.length (zs.map Ia)) (lo : List Nat) : callA cfg O 16 [V n1 t1 zs, o] lo H = some (B true, H) := by
  obtain ⟨n2, t2, b, e⟩ := pureLst ho
  have h1 : pureArgs H [V n1 t1 zs, o] = some ([V n1 t1 zs, V n2 t2 zs], b) := by
    have e0 : pureArg H (V n1 t1 zs) = some (V n1 t1 zs, false) := rfl
    simp only [pureArgs, e, e0, obs, oms, Bool.false_or, Bool.or_false]
  have h2 : O.ent 16 [V n1 t1 zs, V n2 t2 zs] [] [] = some ([B true], []) := by
    rw [f16_eq]
    simp only [core]
    exact loop16 hb zs.length 0 (by omega)
  exact callA_rows (H' := []) rfl h1 h2 rfl rfl

theorem best0 (z : Int) : bests true (I z) [I 0] = some (I (max z 0)) := by
  have : bests true (I z) [I 0] = (best true (I z) (I 0)).bind fun y => some y := rfl
  rw [this]
  have : best true (I z) (I 0) = some (I (if (0 : Int) > z then 0 else z)) := rfl
  rw [this]
  have e : (if (0 : Int) > z then 0 else z) = max z 0 := by split <;> omega
  rw [e]
  rfl

theorem fin39 {H : Heap} {v : A_Val} {b : Bool} {e d lz wz : Int} {ws : List Int} {n1 : Option Bool} {t1 : Bool} {o : AV} (h0 : H[0]? = some (bxV v)) (h1 : H[1]? = some (bxV v)) (hb : ws.length < 2 ^ 40) (ho : Lst 1 o H ws.length (ws.map Ia)) :
    L3_39 [.ptr 0 0, B b, I e, I (max lz 0), B (decide (0 ≤ lz)), I e, V n1 t1 ws, I d, I (max wz 0), B (decide (0 ≤ wz)), I d, I e, I d, .ptr 1 0, B b, I lz, I wz, o] [] H = some ([B true], []) := by
  rw [L3_39_eq, bV h0, bV h1]
  have hbb : (b == b) = true := by cases b <;> rfl
  have h2 : ∀ x : Bool, (x == x) = true := fun x => by cases x <;> rfl
  simp only [core, avV, eq2, and_self, hbb, best0, h2, call16o hb ho, leave0_B]

theorem loop3 (hb : l.length < 2 ^ 40) (c p : Int) {v : A_Val} {b : Bool} {e d lz wz : Int} {n1 : Option Bool} {t1 : Bool} : ∀ (m j : Nat) (o : AV) (H : Heap), j + m = l.length → Cx H [(0, bxV v), (1, bxV v)] [(o, 1, (flt (wp l c p) j).length, (flt (wp l c p) j).map Ia)] →
    L3_30 [Rw enc nl tg l, I c, I p, .ptr 0 0, B b, I e, I (max lz 0), B (decide (0 ≤ lz)), I e, V n1 t1 (flt (wp l c p) l.length), I d, I (max wz 0), B (decide (0 ≤ wz)), I d, I e, I d, .ptr 1 0, B b, I lz, I wz, o, I j] [] H = some ([B true], []) := by
  intro m
  induction m with
  | zero =>
    intro j o H hj h
    have : j = l.length := by omega
    subst this
    rw [L3_30_eq]
    simp only [core, Int.lt_irrefl]
    have := flt_len (wp l c p) l.length
    exact fin39 (h.at (id := 0) (o := bxV v) (by simp)) (h.at (id := 1) (o := bxV v) (by simp)) (by omega) h.hd
  | succ m ih =>
    intro j o H hj h
    have hjl : j < l.length := by omega
    have h0 : (j : Int) < (l.length : Int) := by omega
    rw [L3_30_eq]
    simp only [core, h0, idxE hjl, ldEv hjl, call15, ← wr_at]
    cases hw : wr (l.getD j z0) c p with
    | true =>
      obtain ⟨o', H', e1, h2⟩ := plc [] (by omega) h (show wp l c p j = true from hw)
      simp only [core, lit1, e1, L3_33_eq]
      rw [wrap_id (by omega), nxt]
      exact ih (j + 1) _ _ (by omega) h2
    | false =>
      simp only [core, L3_33_eq]
      rw [wrap_id (by omega), nxt]
      exact ih (j + 1) _ _ (by omega) (plc0 [] h (show wp l c p j = false from hw))

/-- From the document's half on. -/
theorem half (c p : Int) {v : A_Val} {b : Bool} {e lz : Int} {n1 : Option Bool} {t1 : Bool} {H : Heap} (h : Cx H [(0, bxV v), (1, bxV v)] []) {ws : AV} {wz : Int}
    (hws : (chk l.length 0 = 0 → ws = V n1 t1 (flt (wp l c p) l.length) ∧ wz = wf l 0 l.length) ∧ (chk l.length 0 ≠ 0 → ws = .p nilS ∧ wz = -1)) :
    L3_25 [Rw enc nl tg l, I c, I p, .ptr 0 0, B b, I e, I (max lz 0), B (decide (0 ≤ lz)), I e, ws, I (chk l.length 0), I (max wz 0), B (decide (0 ≤ wz)), I (chk l.length 0), I e, I (chk l.length 0), .ptr 1 0, B b, I lz, I (-1), .p nilS] [] H = some ([B true], []) := by
  rw [L3_25_eq]
  by_cases hd : chk l.length 0 = 0
  · have hb : l.length < 2 ^ 40 := by have := chk_ok hd; omega
    obtain ⟨rfl, rfl⟩ := hws.1 hd
    simp only [core, hd, call14 hb]
    exact loop3 hb c p l.length 0 (.p nilS) H (by omega) (h.newNil 1)
  · obtain ⟨rfl, rfl⟩ := hws.2 hd
    simp only [core, hd]
    exact fin39 (ws := []) (lz := lz) (wz := -1) (n1 := some true) (t1 := true) (h.at (id := 0) (o := bxV v) (by simp)) (h.at (id := 1) (o := bxV v) (by simp)) (by simp) (Lst.nil 1 H)

theorem ent3 (c p a : Int) : O.ent 3 [Rw enc nl tg l, I c, I p, I a] [] [] = some ([B true], []) := by
  obtain ⟨nl', tg', h9'⟩ := call9 (l := l) (nl := nl) (tg := tg) c p
  rw [f3_eq]
  have b1 : boxO [] [I 0, I 0] [] = some (.ptr 0 0, [.box [I 0, I 0]]) := rfl
  -- what the program tells
  obtain ⟨v, b, lz, hv⟩ : ∃ (v : A_Val) (b : Bool) (lz : Int), (chk l.length a = 0 → v = ow ((kn l c p a.toNat).or (fw l c p a.toNat (l.length - a.toNat))) ∧ b = ((kn l c p a.toNat).or (fw l c p a.toNat (l.length - a.toNat))).isSome ∧ lz = lw l c p a.toNat) ∧ (chk l.length a ≠ 0 → v = (0, 0) ∧ b = false ∧ lz = -1) := by
    by_cases h : chk l.length a = 0
    · exact ⟨_, _, _, fun _ => ⟨rfl, rfl, rfl⟩, fun e => (e h).elim⟩
    · exact ⟨_, _, _, fun e => (h e).elim, fun _ => ⟨rfl, rfl, rfl⟩⟩
  have c7 : callA cfg O 7 [Rw enc nl tg l, I c, I p, I a] [] [] = some (.tup [avV v, B b, I (chk l.length a)], []) := by
    rw [call7]
    by_cases h : chk l.length a = 0
    · obtain ⟨rfl, rfl, _⟩ := hv.1 h
      rw [if_pos h, h]
      cases (kn l c p a.toNat).or (fw l c p a.toNat (l.length - a.toNat)) <;> rfl
    · obtain ⟨rfl, rfl, _⟩ := hv.2 h
      rw [if_neg h]
  have c8 : ∀ H, callA cfg O 8 [Rw enc nl tg l, I c, I p, I a] [] H = some (.tup [I (max lz 0), B (decide (0 ≤ lz)), I (chk l.length a)], H) := by
    intro H
    rw [call8]
    by_cases h : chk l.length a = 0
    · obtain ⟨_, _, rfl⟩ := hv.1 h
      rw [if_pos h, h]
    · obtain ⟨_, _, rfl⟩ := hv.2 h
      rw [if_neg h]
      rfl
  obtain ⟨ws, wz, hws⟩ : ∃ (ws : AV) (wz : Int), (chk l.length 0 = 0 → ws = V nl' tg' (flt (wp l c p) l.length) ∧ wz = wf l 0 l.length) ∧ (chk l.length 0 ≠ 0 → ws = .p nilS ∧ wz = -1) := by
    by_cases h : chk l.length 0 = 0
    · exact ⟨_, _, fun _ => ⟨rfl, rfl⟩, fun e => (e h).elim⟩
    · exact ⟨_, _, fun e => (h e).elim, fun _ => ⟨rfl, rfl⟩⟩
  have c9 : ∀ H, callA cfg O 9 [Rw enc nl tg l, I c, I p] [] H = some (.tup [ws, I (chk l.length 0)], H) := by
    intro H
    rw [h9']
    by_cases h : chk l.length 0 = 0
    · obtain ⟨rfl, _⟩ := hws.1 h
      rw [if_pos h, h]
    · obtain ⟨rfl, _⟩ := hws.2 h
      rw [if_neg h]
  have c10 : ∀ H, callA cfg O 10 [Rw enc nl tg l] [] H = some (.tup [I (max wz 0), B (decide (0 ≤ wz)), I (chk l.length 0)], H) := by
    intro H
    rw [call10]
    by_cases h : chk l.length 0 = 0
    · obtain ⟨_, rfl⟩ := hws.1 h
      rw [if_pos h, h]
      rfl
    · obtain ⟨_, rfl⟩ := hws.2 h
      rw [if_neg h]
      rfl
  have st1 : stA 2 (.ptr 0 0) (.agg [I v.1, I v.2]) [] [.box [I 0, I 0]] = some [bxV v] := rfl
  have b2 : boxO [] [I 0, I 0] [bxV v] = some (.ptr 1 0, [bxV v, .box [I 0, I 0]]) := rfl
  have st2 : stA 2 (.ptr 1 0) (.agg [I 0, I 0]) [] [bxV v, .box [I 0, I 0]] = some [bxV v, bxV (0, 0)] := rfl
  simp only [core, c7, avV, b1, st1, c8, c9 , c10, call11, build0, b2, st2]
  have cx0 : ∀ u : A_Val, Cx [bxV v, bxV u] [(0, bxV v), (1, bxV u)] [] := fun u =>
    (((Cx.nil []).newObj (bxV v) rfl).newObj (bxV u) rfl).mono (fun q hq => by
      rcases List.mem_cons.mp hq with h | hq
      · exact List.mem_cons_of_mem _ (List.mem_cons.mpr (.inl h))
      · rcases List.mem_cons.mp hq with h | hq
        · exact List.mem_cons.mpr (.inl h)
        · cases hq) (List.Sublist.refl _)
  by_cases h : chk l.length a = 0
  · have hr := chk_ok h
    have hb : l.length < 2 ^ 40 := by omega
    obtain ⟨hv1, hv2, hv3⟩ := hv.1 h
    have ha : I a = I (a.toNat : Int) := by
      have : (a.toNat : Int) = a := by omega
      rw [this]
    have c12 : ∀ H, callA cfg O 12 [Rw enc nl tg l, I c, I p, I a] [] H = some (.tup [avV v, B b], H) := by
      intro H
      rw [ha, call12 (by omega) hb, hv1, hv2]
    have c13 : ∀ H, callA cfg O 13 [Rw enc nl tg l, I c, I p, I a] [] H = some (I lz, H) := by
      intro H
      rw [ha, call13 (by omega) hb, hv3]
    have st3 : stA 2 (.ptr 1 0) (.agg [I v.1, I v.2]) [] [bxV v, bxV (0, 0)] = some [bxV v, bxV v] := rfl
    simp only [core, h, c12, c13, avV, st3]
    exact half c p (cx0 v) hws
  · obtain ⟨rfl, rfl, rfl⟩ := hv.2 h
    simp only [core, h]
    exact half c p (cx0 (0, 0)) hws
end
end Wa
end Go.Proofs.Ytjncpgcbgdkflaa
