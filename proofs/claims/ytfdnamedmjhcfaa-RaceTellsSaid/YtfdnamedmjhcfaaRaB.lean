import Derived.Test.YtfdnamedmjhcfaaRaA
import Derived.Test.YtfdnamedmjhcfaaAm33
/- Races: the walks of what gathers all that lead to a place. -/
set_option linter.unusedVariables false
set_option linter.unusedSimpArgs false
namespace Go.Proofs.Ytfdnamedmjhcfaa
open Go Go.AM Go.AM.Ck Cl
namespace Ra

theorem call30 (x : PV) (lo : List Nat) (H : Heap) : callA cfg O 30 [.p x] lo H = some (.fn 45 [] [.ptr H.length 0], H ++ [.box [.p x]]) := by
  have he : O.ent 30 [.p x] lo H = some ([.fn 45 [] [.ptr H.length 0]], H ++ [.box [.p x]]) := by
    rw [f30_eq]
    rfl
  have : callA cfg O 30 [.p x] lo H = (O.ent 30 [.p x] lo H).bind fun r => oneH H (ret r.1) r.2 := rfl
  rw [this, he]
  simp only [obs]
  unfold oneH
  rw [if_pos (.inr ⟨_, rfl⟩)]
  rfl
theorem rng_fn (q : AV) : rngIn (.fn 45 [] [q]) 45 = some q := _root_.id rfl

theorem call32 {id g : Nat} {H : Heap} {zs : List Int} (ho : H[id]? = some (.row g 1 (zs.map Ia))) (h0 : 0 < zs.length) (hn : zs.length < 2 ^ 40) (lo : List Nat) :
    callA cfg O 32 [.row id g 0 zs.length] lo H = some (.tup [], H.set id (.row g 1 ((zs.mergeSort fun x y => decide (x ≤ y)).map Ia))) := by
  have e : O.ent 32 [.row id g 0 zs.length] lo H = extRun cfg O .ints [.row id g 0 zs.length] H := by
    rw [O_ent]
    rfl
  have m : cfg.mode 32 = 1 := rfl
  exact callA_keep m (rs := []) (by rw [e]; exact ints_run ho h0 hn)

section
variable {l : List E} {n2 : Option Bool} {t2 : Bool} {S : List P2} {zs : List Int}

theorem call31r {id g : Nat} {H : Heap} (ho : H[id]? = some (.row g 1 (zs.map Ia))) (hn : zs.length < 2 ^ 40) (x : Int) (lo : List Nat) : callA cfg O 31 [.row id g 0 zs.length, I x] lo H = some (B (decide (x ∈ zs)), H) := by
  have hL : Lst 1 (.row id g 0 zs.length) H zs.length (zs.map Ia) := Lst.row (by simp) ho
  obtain ⟨n3, t3, q, ep⟩ := pureLst hL
  have hp : pureArgs H [.row id g 0 zs.length, I x] = some ([V n3 t3 zs, I x], (q || (false || false))) := by
    simp only [pureArgs, ep, obs, oms]
    rfl
  exact callA_rows (H' := []) (rs := [B (decide (x ∈ zs))]) rfl hp (ent31 hn x) rfl rfl

/-- The heap while a place's ways are gathered. -/
def Gh (n2 : Option Bool) (t2 : Bool) (S : List P2) (H : Heap) (g : Nat) (zs : List Int) : Prop :=
  H[0]? = some (.row g 1 (zs.map Ia)) ∧ H[1]? = some (.box [.row 0 g 0 zs.length]) ∧ H[2]? = some (.box [Rw encP n2 t2 S])

theorem loop18 (hS : S.length < 2 ^ 38) : ∀ (i g : Nat) (zs : List Int) (H : Heap), i ≤ S.length → zs.length + i < 2 ^ 39 → Gh n2 t2 S H g zs → ∃ g' H', Gh n2 t2 S H' g' (gat (S.take i) zs) ∧
    L18_200002 [I ((i : Int) - 1), .ptr 2 0, .ptr 1 0] [] H = L18_200002 [I (-1), .ptr 2 0, .ptr 1 0] [] H' := by
  intro i
  induction i with
  | zero => intro g zs H _ _ h; exact ⟨g, H, h, by simp⟩
  | succ i ih =>
    intro g zs H hi hz hG
    have hi' : i < S.length := by omega
    have g0 : ¬ (i : Int) < 0 := by omega
    have e0 : ((i + 1 : Nat) : Int) - 1 = i := by omega
    rw [List.take_add_one, List.getElem?_eq_getElem hi', Option.toList_some, gat_append]
    obtain ⟨h0, h1, h2⟩ := hG
    have q2 : ld false 1 (.ptr 2 0) H = some (Rw encP n2 t2 S) := by rw [ld_box h2]; rfl
    have e1 : idxA 2 (Rw encP n2 t2 S) (I i) = some (.fp (S.flatMap encP) (i * 2)) := idxR hi'
    have e2 : ld true 2 (.fp (S.flatMap encP) (i * 2)) H = some (.agg ((encP S[i]).map .p)) := ldR len2 hi' H
    have eb : boxO [] [I 0, I 0] H = some (.ptr H.length 0, H ++ [.box [I 0, I 0]]) := boxO_p [Ia 0, Ia 0] H
    have es : stA 2 (.ptr H.length 0) (.agg ((encP S[i]).map .p)) [] (H ++ [.box [I 0, I 0]]) = some (H ++ [.box ((encP S[i]).map .p)]) := by
      have := stA_box (H := H ++ [.box [I 0, I 0]]) (id := H.length) (n := 2) (off := 0) (xs := [I 0, I 0]) (y := .agg ((encP S[i]).map .p)) (lo := []) (by simp) rfl (by simp) rfl (okLevels_p [] _ (encP S[i]))
      rw [this]
      simp [splice, AV.cells, encP]
    have hlen : 2 < H.length := getElem?_lt h2
    generalize hK : H ++ [.box ((encP S[i]).map .p)] = K at *
    have k0 : K[0]? = some (.row g 1 (zs.map Ia)) := by rw [← hK]; exact push_get? h0 _
    have k1 : K[1]? = some (.box [.row 0 g 0 zs.length]) := by rw [← hK]; exact push_get? h1 _
    have k2 : K[2]? = some (.box [Rw encP n2 t2 S]) := by rw [← hK]; exact push_get? h2 _
    have k3 : K[H.length]? = some (.box ((encP S[i]).map .p)) := by rw [← hK]; simp
    have r1 : ld false 1 (.ptr 1 0) K = some (.row 0 g 0 zs.length) := by rw [ld_box k1]; rfl
    have r3 : ld false 1 (.ptr H.length (0 + 1)) K = some (I S[i].2) := by rw [ld_box k3]; rfl
    have r4 : ld false 1 (.ptr H.length (0 + 0)) K = some (I S[i].1) := by rw [ld_box k3]; rfl
    have c1 := call31r k0 (by omega) S[i].2 []
    have c2 := call31r k0 (by omega) S[i].1 []
    have w : IntKind.i64.wrap ((i : Int) - 1) = (i : Int) - 1 := wrap_id (by omega)
    rw [e0, L18_200002_eq]
    simp only [core, g0, q2, e1, e2, eb, es, r1, r3, c1]
    have eg : gat [S[i]] zs = step S[i] zs := rfl
    rw [eg]
    by_cases m1 : S[i].2 ∈ zs
    · by_cases m2 : S[i].1 ∈ zs
      · have es2 : step S[i] zs = zs := if_neg fun h => h.2 m2
        simp only [core, m1, m2, r1, r4, c2, w]
        rw [es2]
        exact ih g zs K (by omega) (by omega) ⟨k0, k1, k2⟩
      · have es2 : step S[i] zs = zs ++ [S[i].1] := if_pos ⟨m1, m2⟩
        have ea : appA 1 8 (.row 0 g 0 zs.length) (.p (.sl (some false) true 1 [Ia S[i].1])) K = some (.row 0 (g + 1) 0 (zs.length + 1), K.set 0 (.row (g + 1) 1 ((zs ++ [S[i].1]).map Ia))) := by
          simp only [appA, cells1, obs, appTo, k0]
          rw [if_pos (by simp [room]; omega), List.drop_zero, List.take_of_length_le (by simp)]
          simp
        have k1' : (K.set 0 (.row (g + 1) 1 ((zs ++ [S[i].1]).map Ia)))[1]? = some (.box [.row 0 g 0 zs.length]) := by rw [List.getElem?_set_ne (by omega)]; exact k1
        have e7 : stA 1 (.ptr 1 0) (.row 0 (g + 1) 0 (zs.length + 1)) [] (K.set 0 (.row (g + 1) 1 ((zs ++ [S[i].1]).map Ia))) = some ((K.set 0 (.row (g + 1) 1 ((zs ++ [S[i].1]).map Ia))).set 1 (.box [.row 0 (g + 1) 0 (zs.length + 1)])) :=
          stA_box (n := 1) (off := 0) (y := .row 0 (g + 1) 0 (zs.length + 1)) k1' rfl (by simp) rfl rfl
        have hk0 : 0 < K.length := getElem?_lt k0
        have hk1 : 1 < K.length := getElem?_lt k1
        simp only [core, m1, m2, r1, r4, c2, lit1, ea, e7, w]
        rw [es2]
        refine ih (g + 1) (zs ++ [S[i].1]) _ (by omega) (by simp; omega) ⟨?_, ?_, ?_⟩
        · rw [List.getElem?_set_ne (by omega), List.getElem?_set_self (by omega)]
        · rw [List.getElem?_set_self (by simpa using hk1)]
          simp
        · rw [List.getElem?_set_ne (by omega), List.getElem?_set_ne (by omega)]
          exact k2
    · have es2 : step S[i] zs = zs := if_neg fun h => m1 h.1
      simp only [core, m1, w]
      rw [es2]
      exact ih g zs K (by omega) (by omega) ⟨k0, k1, k2⟩

theorem call18 (hS : MemE l S) (hp : S.Pairwise plt) (hSl : S.length < 2 ^ 38) {n : Nat} (hn : n < l.length) (lo : List Nat) (H : Heap) : ∃ n3 t3, callA cfg O 18 [Rw encP n2 t2 S, I n] lo H = some (V n3 t3 (way l n), H) := by
  have key : ∃ n3 t3 H', O.ent 18 [Rw encP n2 t2 S, I n] [] [] = some ([V n3 t3 (way l n)], H') := by
    have e1 : litA true 1 [I n] [] = some (.row 0 0 0 1, [.row 0 1 [Ia n]]) := rfl
    have e2 : boxO [] [(.p nilS)] [.row 0 1 [Ia n]] = some (.ptr 1 0, [.row 0 1 [Ia n], .box [.p nilS]]) := rfl
    have e3 : stA 1 (.ptr 1 0) (.row 0 0 0 1) [] [.row 0 1 [Ia n], .box [.p nilS]] = some [.row 0 1 [Ia n], .box [.row 0 0 0 1]] := rfl
    have e4 := call30 (.sl n2 t2 S.length (S.flatMap encP)) [] [.row 0 1 [Ia n], .box [.row 0 0 0 1]]
    have e5 : ld false 1 (.ptr 2 0) [.row 0 1 [Ia n], .box [.row 0 0 0 1], .box [Rw encP n2 t2 S]] = some (Rw encP n2 t2 S) := rfl
    have w : IntKind.i64.wrap ((S.length : Int) - 1) = (S.length : Int) - 1 := wrap_id (by omega)
    rw [f18_eq]
    simp only [core, e1, e2, e3]
    rw [e4]
    simp only [core, rng_fn, List.length_cons, List.length_nil, List.cons_append, List.nil_append, Nat.zero_add, Nat.reduceAdd, e5, w]
    obtain ⟨g', H', ⟨h0, h1, h2⟩, e⟩ := loop18 (n2 := n2) (t2 := t2) hSl S.length 0 [(n : Int)] [.row 0 1 [Ia n], .box [.row 0 0 0 1], .box [Rw encP n2 t2 S]] (Nat.le_refl _) (by simp; omega) ⟨rfl, rfl, rfl⟩
    rw [e, L18_200002_eq]
    rw [List.take_length] at h0 h1
    have hl : (gat S [(n : Int)]).length ≤ 1 + S.length := gat_len S [(n : Int)]
    have hl0 : 0 < (gat S [(n : Int)]).length := List.length_pos_of_mem (gat_mono (x := (n : Int)) (by simp))
    have r1 : ld false 1 (.ptr 1 0) H' = some (.row 0 g' 0 (gat S [(n : Int)]).length) := by rw [ld_box h1]; rfl
    have c32 := call32 h0 hl0 (by omega) []
    rw [gat_way hS hp hn] at c32
    have hwl : (gat S [(n : Int)]).length = (way l n).length := by rw [← gat_way hS hp hn, List.length_mergeSort]
    have hk0 : 0 < H'.length := getElem?_lt h0
    have r2 : ld false 1 (.ptr 1 0) (H'.set 0 (.row g' 1 ((way l n).map Ia))) = some (.row 0 g' 0 (gat S [(n : Int)]).length) := by rw [ld_box (by rw [List.getElem?_set_ne (by omega)]; exact h1)]; rfl
    simp only [core, show (-1 : Int) < 0 by omega, r1, c32, r2]
    rw [hwl]
    exact (Lst.row (sz := 1) (id := 0) (g := g') (m := (way l n).length) (cs := (way l n).map Ia) (H := H'.set 0 (.row g' 1 ((way l n).map Ia))) (by simp) (by rw [List.getElem?_set_self hk0])).leave1 []
  obtain ⟨n3, t3, H', e⟩ := key
  exact ⟨n3, t3, callA_args rfl rfl e rfl⟩

/-! ### RaceInto -/
variable {nl : Option Bool} {tg : Bool}
theorem call12 {n : Nat} (hn : n < l.length) (hL : l.length < 2 ^ 39) (lo : List Nat) (H : Heap) : ∃ n3 t3, callA cfg O 12 [Rw enc nl tg l, I n] lo H = some (V n3 t3 (way l n), H) := by
  have loop : ∀ (c k : Nat) (o : AV) (G : Heap), n + 1 - k = c → k ≤ n + 1 → Cx G [] [(o, 1, (flt (fun k => dec (Bf (ED l) k n) || decide (k = n)) k).length, (flt (fun k => dec (Bf (ED l) k n) || decide (k = n)) k).map Ia)] →
      ∃ n3 t3 H', L12_10 [I n, .p (.sl (some false) false l.length (rB (fun k => dec (Bf (ED l) k n)) l.length)), o, I k] [] G = some ([V n3 t3 (way l n)], H') := by
    intro c
    induction c with
    | zero =>
      intro k o G hc hk hC
      have : k = n + 1 := by omega
      subst this
      have g : ¬ ((n + 1 : Nat) : Int) ≤ n := by omega
      rw [L12_10_eq]
      simp only [core, g]
      exact hC.hd.leave1 []
    | succ c ih =>
      intro k o G hc hk hC
      have g : (k : Int) ≤ n := by omega
      have hkl : k < l.length := by omega
      have w : IntKind.i64.wrap ((k : Int) + 1) = ((k + 1 : Nat) : Int) := by rw [wrap_id (by omega)]; omega
      have ei : idxA 1 (.p (.sl (some false) false l.length (rB (fun k => dec (Bf (ED l) k n)) l.length))) (I k) = some (.fp (rB (fun k => dec (Bf (ED l) k n)) l.length) k) := idxB hkl
      have el : ∀ G, ld false 1 (.fp (rB (fun k => dec (Bf (ED l) k n)) l.length) k) G = some (B (dec (Bf (ED l) k n))) := fun G => ldB hkl G
      rw [L12_10_eq]
      simp only [core, g, ei, el]
      by_cases hb : (dec (Bf (ED l) k n) || decide (k = n)) = true
      · obtain ⟨o', G', ea, hC'⟩ := plc [] (show k < 2 ^ 40 by omega) hC hb
        obtain ⟨n3, t3, H', e⟩ := ih (k + 1) o' G' (by omega) (by omega) hC'
        refine ⟨n3, t3, H', ?_⟩
        cases h1 : dec (Bf (ED l) k n) with
        | true =>
          simp only [core, lit1, ea]
          rw [L12_13_eq]
          simp only [core, w]
          exact e
        | false =>
          have h2 : decide ((k : Int) = (n : Int)) = true := by rw [h1] at hb; simp at hb; simp [hb]
          simp only [core, h2, lit1, ea]
          rw [L12_13_eq]
          simp only [core, w]
          exact e
      · have hf : flt (fun k => dec (Bf (ED l) k n) || decide (k = n)) (k + 1) = flt (fun k => dec (Bf (ED l) k n) || decide (k = n)) k := by
          rw [flt_succ, if_neg hb, List.append_nil]
        have h1 : dec (Bf (ED l) k n) = false := by
          cases h : dec (Bf (ED l) k n) with
          | false => rfl
          | true => rw [h] at hb; exact absurd rfl hb
        have h2 : ¬ (k : Int) = n := fun h => hb (by have : k = n := by omega
                                                     simp [this])
        simp only [core, h1, h2]
        rw [L12_13_eq]
        simp only [core, w]
        exact ih (k + 1) o G (by omega) (by omega) (by rw [hf]; exact hC)
  obtain ⟨n3, t3, H', e⟩ := loop (n + 1) 0 (.p nilS) [] rfl (by omega) ((Cx.nil []).newNil 1)
  refine ⟨n3, t3, callA_args rfl rfl (H' := H') (rs := [V n3 t3 (way l n)]) ?_ rfl⟩
  rw [f12_eq]
  simp only [core, call78 (nl := nl) (tg := tg) hn (show l.length < 2 ^ 40 by omega)]
  exact e
end
end Ra
end Go.Proofs.Ytfdnamedmjhcfaa

/- Races: all of them. -/
set_option linter.unusedVariables false
set_option linter.unusedSimpArgs false
namespace Go.Proofs.Ytfdnamedmjhcfaa
open Go Go.AM Go.AM.Ck Cl
namespace Ra

/-- Two events that meet and of which none leads to the other. -/
noncomputable def rc (l : List E) (i j : Nat) : Bool := mt (l.getD i z0) (l.getD j z0) && !dec (Bf (ED l) i j)
/-- The races that end at an event, of those that begin ahead of k. -/
noncomputable def rw1 (l : List E) (j : Nat) : Nat → List P2
  | 0 => []
  | k + 1 => rw1 l j k ++ if rc l k j = true then [((k : Int), (j : Int))] else []
noncomputable def rall (l : List E) : Nat → List P2
  | 0 => []
  | j + 1 => rall l j ++ rw1 l j j

theorem rw1_len (l : List E) (j : Nat) : ∀ k, (rw1 l j k).length ≤ k
  | 0 => by simp [rw1]
  | k + 1 => by
    have := rw1_len l j k
    rw [rw1, List.length_append]
    split <;> simp <;> omega
theorem rall_len (l : List E) : ∀ j, (rall l j).length ≤ j * j
  | 0 => by simp [rall]
  | j + 1 => by
    have h1 := rall_len l j
    have h2 := rw1_len l j j
    rw [rall, List.length_append]
    have : (j + 1) * (j + 1) = j * j + j + (j + 1) := by rw [Nat.add_mul, Nat.mul_add]; omega
    omega
theorem rw1_pre (l : List E) (j : Nat) : ∀ {k m : Nat}, k ≤ m → ∃ r, rw1 l j m = rw1 l j k ++ r := by
  intro k m h
  induction m with
  | zero => have : k = 0 := by omega
            subst this; exact ⟨[], by simp⟩
  | succ m ih =>
    by_cases e : k = m + 1
    · subst e; exact ⟨[], by simp⟩
    · obtain ⟨r, hr⟩ := ih (by omega)
      exact ⟨r ++ if rc l m j = true then [((m : Int), (j : Int))] else [], by rw [rw1, hr, List.append_assoc]⟩
theorem rall_pre (l : List E) : ∀ {k m : Nat}, k ≤ m → ∃ r, rall l m = rall l k ++ r := by
  intro k m h
  induction m with
  | zero => have : k = 0 := by omega
            subst this; exact ⟨[], by simp⟩
  | succ m ih =>
    by_cases e : k = m + 1
    · subst e; exact ⟨[], by simp⟩
    · obtain ⟨r, hr⟩ := ih (by omega)
      exact ⟨r ++ rw1 l m m, by rw [rall, hr, List.append_assoc]⟩
/-- What is the next one. -/
theorem next_at (l : List E) {x y L : Nat} (hx : x < y) (hy : y < L) (h : rc l x y = true) : (rall l L)[(rall l y ++ rw1 l y x).length]? = some ((x : Int), (y : Int)) := by
  obtain ⟨r1, h1⟩ := rall_pre l (show y + 1 ≤ L by omega)
  obtain ⟨r2, h2⟩ := rw1_pre l y (show x + 1 ≤ y by omega)
  rw [h1, rall, h2, rw1, if_pos h]
  simp only [← List.append_assoc]
  rw [List.append_assoc, List.append_assoc]
  rw [List.getElem?_append_right (Nat.le_refl _)]
  simp

section
variable {l : List E} {nl : Option Bool} {tg : Bool} {n3 : Option Bool} {t3 : Bool} {ds : List Dd} {th : Nat}

theorem bld (a b : Int) : buildA [I 0, I 0] [(0, 1, I a), (1, 1, I b)] = some (.agg [I a, I b]) := rfl
theorem litP2 (a b : Int) (H : Heap) : litA false 2 [.agg [I a, I b]] H = some (.p (.sl (some false) true 1 (encP (a, b))), H) := rfl

theorem box12 (H : Heap) : boxO [] [I 0, I 0, I 0, I 0, I 0, I 0, I 0, I 0, I 0, I 0, I 0, I 0] H = some (.ptr H.length 0, H ++ [.box [I 0, I 0, I 0, I 0, I 0, I 0, I 0, I 0, I 0, I 0, I 0, I 0]]) := boxO_p [Ia 0, Ia 0, Ia 0, Ia 0, Ia 0, Ia 0, Ia 0, Ia 0, Ia 0, Ia 0, Ia 0, Ia 0] H
theorem st12 (e : E) (H : Heap) : stA 12 (.ptr H.length 0) (avE e) [] (H ++ [.box [I 0, I 0, I 0, I 0, I 0, I 0, I 0, I 0, I 0, I 0, I 0, I 0]]) = some (H ++ [bxE e]) := by
  have := stA_box (H := H ++ [.box [I 0, I 0, I 0, I 0, I 0, I 0, I 0, I 0, I 0, I 0, I 0, I 0]]) (id := H.length) (n := 12) (off := 0) (xs := [I 0, I 0, I 0, I 0, I 0, I 0, I 0, I 0, I 0, I 0, I 0, I 0]) (y := avE e) (lo := []) (by simp) rfl (by simp) rfl (okLevels_p [] _ (enc e))
  rw [this]
  simp [splice, AV.cells, avE, enc, enc_Event]

theorem loop5i (hl : l.length ≤ 200) (hds : ints ds = (List.range l.length).map fun j => (List.range th).map fun t => (VC l j t : Int)) (hT : ∀ i, i < l.length → 0 ≤ Th l i ∧ Th l i < th)
    {j q : Nat} (hj : j < l.length) (v0 v22 v23 v24 : AV) {n5 : Option Bool} {t5 : Bool} : ∀ (c i : Nat) (o : AV) (xs : List P2) (H : Heap), j - i = c → i ≤ j → xs.length + j < 2 ^ 30 + i →
    Cx H [(q, bxE (l.getD j z0))] [(o, 2, xs.length, xs.flatMap encP)] → ∃ o' r H', rw1 l j j = rw1 l j i ++ r ∧ Cx H' [] [(o', 2, (xs ++ r).length, (xs ++ r).flatMap encP)] ∧
      L5_20 [v0, W n3 t3 ds, o, I j, .ptr q 0, v22, v23, I j, Rw enc n5 t5 (l.take j), I j, I i] [] H = L5_14 [v0, W n3 t3 ds, o', v22, v23, I ((j + 1 : Nat) : Int)] [] H' := by
  intro c
  induction c with
  | zero =>
    intro i o xs H hc hi hb hC
    have : i = j := by omega
    subst this
    refine ⟨o, [], H, by simp, by simpa using hC.bt, ?_⟩
    rw [L5_20_eq]
    simp only [core, Int.lt_irrefl]
    rw [wrap_id (by omega), nxt]
  | succ c ih =>
    intro i o xs H hc hi hb hC
    have hij : i < j := by omega
    have hil : i < l.length := by omega
    have hit : i < (l.take j).length := by rw [List.length_take]; omega
    have g : (i : Int) < j := by omega
    have hbx := hC.at (id := q) (o := bxE (l.getD j z0)) (by simp)
    have ei := idxE (nl := n5) (tg := t5) hit
    have el := ldEv hit H
    have eg : (l.take j).getD i z0 = l.getD i z0 := by simp [List.getD_eq_getElem?_getD, List.getElem?_take, hij]
    rw [eg] at el
    have hC2 := hC.push [bxE (l.getD i z0)]
    have hbx2 := hC2.at (id := q) (o := bxE (l.getD j z0)) (by simp)
    have hbx1 : (H ++ [bxE (l.getD i z0)])[H.length]? = some (bxE (l.getD i z0)) := by simp
    have ea := bAll hbx1
    have eb := bAll hbx2
    have et := b2 hbx1
    have htt : th = th := rfl
    obtain ⟨ti, hti⟩ : ∃ ti : Nat, Th l i = ti := ⟨(Th l i).toNat, by have := hT i hil; omega⟩
    have hti2 : ti < th := by have := (hT i hil).2; omega
    have hth' : Ra.th (l.getD i z0) = ti := hti
    rw [hth'] at et
    obtain ⟨d1, v1⟩ := dsAt hds hil
    obtain ⟨d2, v2⟩ := dsAt hds hj
    have k1 : ti < ds[i].2.2.length := by rw [v1]; simpa using hti2
    have k2 : ti < ds[j].2.2.length := by rw [v2]; simpa using hti2
    have i1 := idxV (nl := ds[i].1) (tg := ds[i].2.1) k1
    have i2 := idxV (nl := ds[j].1) (tg := ds[j].2.1) k2
    have e1 : ds[i].2.2[ti] = (VC l i ti : Int) := by simp [v1]
    have e2 : ds[j].2.2[ti] = (VC l j ti : Int) := by simp [v2]
    have hv := vc_bf (edOk l) hil hj (show i ≠ j by omega)
    rw [hti] at hv
    have hv2 : (VC l i ti : Int) ≤ (VC l j ti : Int) ↔ Bf (ED l) i j := by rw [← hv]; exact Int.ofNat_le
    have w : IntKind.i64.wrap ((i : Int) + 1) = ((i + 1 : Nat) : Int) := by rw [wrap_id (by omega), nxt]
    have go : rc l i j = false → ∃ o' r H', rw1 l j j = rw1 l j i ++ r ∧ Cx H' [] [(o', 2, (xs ++ r).length, (xs ++ r).flatMap encP)] ∧
        L5_29 [v0, W n3 t3 ds, o, I j, .ptr q 0, v22, v23, I j, Rw enc n5 t5 (l.take j), I j, I i] [] (H ++ [bxE (l.getD i z0)]) = L5_14 [v0, W n3 t3 ds, o', v22, v23, I ((j + 1 : Nat) : Int)] [] H' := by
      intro hrc
      obtain ⟨o', r, H', q1, q2, q3⟩ := ih (i + 1) o xs (H ++ [bxE (l.getD i z0)]) (by omega) (by omega) (by omega) hC2
      refine ⟨o', r, H', ?_, q2, ?_⟩
      · rw [q1, rw1, hrc]; simp
      · rw [L5_29_eq]
        simp only [core, w]
        exact q3
    rw [L5_20_eq]
    simp only [core, g, ei, el, box12, st12, ea, eb, call15]
    by_cases hm : mt (l.getD i z0) (l.getD j z0) = true
    · by_cases hgt : (VC l j ti : Int) < (VC l i ti : Int)
      · have hrc : rc l i j = true := by
          have : dec (Bf (ED l) i j) = false := dec_f fun h => by exact absurd (hv2.mpr h) (by omega)
          unfold rc
          rw [hm, this]; rfl
        obtain ⟨o2, H2, ap, hC3, _⟩ := hC2.app (bytes := 16) (y := .p (.sl (some false) true 1 (encP ((i : Int), (j : Int))))) (k := 1) (new := encP ((i : Int), (j : Int))) [] (by simp [cellsA, Cl.len2]) rfl (by omega) (by simp only [room]; omega)
        obtain ⟨o', r, H', q1, q2, q3⟩ := ih (i + 1) o2 (xs ++ [((i : Int), (j : Int))]) H2 (by omega) (by omega) (by simp; omega) (by simpa using hC3)
        refine ⟨o', ((i : Int), (j : Int)) :: r, H', ?_, by simpa using q2, ?_⟩
        · rw [q1, rw1, if_pos hrc]; simp
        · simp only [core, hm, et, idxW d1, ldW d1, idxW d2, ldW d2, i1, i2, ldV k1, ldV k2, e1, e2, hgt, bld, litP2, ap]
          rw [L5_29_eq]
          simp only [core, w]
          exact q3
      · have hrc : rc l i j = false := by
          have : dec (Bf (ED l) i j) = true := dec_iff.mpr (hv2.mp (by omega))
          unfold rc
          rw [hm, this]; rfl
        simp only [core, hm, et, idxW d1, ldW d1, idxW d2, ldW d2, i1, i2, ldV k1, ldV k2, e1, e2, hgt]
        exact go hrc
    · have hm' : mt (l.getD i z0) (l.getD j z0) = false := by simpa using hm
      have hrc : rc l i j = false := by unfold rc; rw [hm']; rfl
      simp only [core, hm']
      exact go hrc

theorem loop5 (hl : l.length ≤ 200) (hds : ints ds = (List.range l.length).map fun j => (List.range th).map fun t => (VC l j t : Int)) (hT : ∀ i, i < l.length → 0 ≤ Th l i ∧ Th l i < th) :
    ∀ (c j : Nat) (o : AV) (H : Heap), l.length - j = c → j ≤ l.length → Cx H [] [(o, 2, (rall l j).length, (rall l j).flatMap encP)] →
      ∃ n4 t4 H', L5_14 [Rw enc nl tg l, W n3 t3 ds, o, Rw enc nl tg l, I l.length, I j] [] H = some ([Rw encP n4 t4 (rall l l.length), I 0], H') := by
  intro c
  induction c with
  | zero =>
    intro j o H hc hj hC
    have : j = l.length := by omega
    subst this
    rw [L5_14_eq]
    simp only [core, Int.lt_irrefl]
    exact hC.hd.leave2 [] (Ia 0)
  | succ c ih =>
    intro j o H hc hj hC
    have hj' : j < l.length := by omega
    have g : (j : Int) < l.length := by omega
    have hb := rall_len l j
    have hb2 : j * j ≤ 200 * 200 := Nat.mul_le_mul (by omega) (by omega)
    have hcut : cutA 12 (Rw enc nl tg l) none (some (I j)) none (H ++ [bxE (l.getD j z0)]) = some (Rw enc nl (tg && decide ((j : Int) = l.length)) (l.take j)) := by
      rw [cutA_hi (by omega)]
      have hln : (l.take j).length = j := by rw [List.length_take]; omega
      have hx : (l.flatMap enc).take (j * 12) = (l.take j).flatMap enc := by
        have h2 : l.flatMap enc = (l.take j).flatMap enc ++ (l.drop j).flatMap enc := by rw [← List.flatMap_append, List.take_append_drop]
        rw [h2, List.take_append_of_le_length (by rw [rows_length hE]; omega), List.take_of_length_le (by rw [rows_length hE]; omega)]
      show some (AV.p (.sl nl _ (j : Int).toNat ((l.flatMap enc).take ((j : Int).toNat * 12)))) = some (AV.p (.sl nl _ (l.take j).length ((l.take j).flatMap enc)))
      rw [Int.toNat_natCast, hx, hln]
    have hlen : ∀ G, lenA .slice (Rw enc nl (tg && decide ((j : Int) = l.length)) (l.take j)) G = some (I j) := fun G => by
      show some (I ((l.take j).length : Int)) = _
      rw [List.length_take, Nat.min_eq_left hj]
    have hC2 := hC.newBox ((enc (l.getD j z0)).map .p)
    rw [L5_14_eq]
    simp only [bin_lss, obs, cond_B, g, decide_true, if_true, idxE hj', ldEv hj', box12, st12, oms, hcut, hlen]
    obtain ⟨o', r, H', q1, q2, q3⟩ := loop5i (n3 := n3) (t3 := t3) (n5 := nl) (t5 := tg && decide ((j : Int) = l.length)) hl hds hT hj' (Rw enc nl tg l) (Rw enc nl tg l) (I l.length) (I j) j 0 o (rall l j) (H ++ [bxE (l.getD j z0)]) rfl (by omega) (by omega) hC2
    have hr : rw1 l j j = r := by rw [q1]; rfl
    have e2 : rall l (j + 1) = rall l j ++ r := by rw [rall, hr]
    rw [← e2] at q2
    obtain ⟨n4, t4, H2, e⟩ := ih (j + 1) o' H' (by omega) (by omega) q2
    exact ⟨n4, t4, H2, q3.trans e⟩

theorem call5 (n : Int) (lo : List Nat) (H : Heap) : ∃ n4 t4, callA cfg O 5 [Rw enc nl tg l, I n] lo H = some (.tup [Rw encP n4 t4 (if code l n = 0 then rall l l.length else []), I (code l n)], H) := by
  obtain ⟨n3, t3, ds, e, _, hd⟩ := call75 (l := l) (nl := nl) (tg := tg) (n := n) [] []
  have key : ∃ n4 t4 H', O.ent 5 [Rw enc nl tg l, I n] [] [] = some ([Rw encP n4 t4 (if code l n = 0 then rall l l.length else []), I (code l n)], H') := by
    rw [f5_eq]
    simp only [obs, e, extractA_tup, List.getElem?_cons_zero, List.getElem?_cons_succ, bin_neq, cond_B]
    by_cases h : code l n = 0
    · obtain ⟨th, rfl, h1, h2, h3⟩ := code0 h
      rw [if_neg (by simp [h]), if_pos h, h]
      simp only [lenA_sl, obs]
      exact loop5 h2 (hd th rfl h) h3 l.length 0 (.p nilS) [] rfl (by omega) ((Cx.nil []).newNil 2)
    · rw [if_pos (by simp [h]), if_neg h]
      exact ⟨_, _, _, leave0_all (ps := [_, _]) (H' := _) rfl⟩
  obtain ⟨n4, t4, H', e2⟩ := key
  exact ⟨n4, t4, callA_args rfl rfl e2 rfl⟩
end
end Ra
end Go.Proofs.Ytfdnamedmjhcfaa

/- Races: the walks of Prove and Holds. -/
set_option linter.unusedVariables false
set_option linter.unusedSimpArgs false
namespace Go.Proofs.Ytfdnamedmjhcfaa
open Go Go.AM Go.AM.Ck Cl
namespace Ra

section
variable {l : List E} {nl : Option Bool} {tg : Bool} {n : Int}

theorem call17 : ∃ n2 t2 S, (∀ lo H, callA cfg O 17 [Rw enc nl tg l, I n] lo H = some (.tup [Rw encP n2 t2 S, I (code l n)], H)) ∧ (code l n = 0 → S.Pairwise plt ∧ MemE l S ∧ S.length ≤ 100000) := by
  obtain ⟨n2, t2, S, e, _, h⟩ := ent72 (l := l) (nl := nl) (tg := tg) (n := n)
  exact ⟨n2, t2, S, fun lo H => callA_pure (xs := [.sl nl tg l.length (l.flatMap enc), Ia n]) (rs := [Rw encP n2 t2 S, I (code l n)]) rfl e rfl, h⟩

/-- What Prove answers. -/
noncomputable def pv (l : List E) (c i j : Int) : List Int × List Int × Int :=
  if pcode l c i j = 0 then (if (apO l c i j && mt (l.getD i.toNat z0) (l.getD j.toNat z0)) = true then (way l i.toNat, way l j.toNat, 0) else ([], [], 5)) else ([], [], pcode l c i j)

theorem stBox2 {H : Heap} {id : Nat} {x y : AV} {a b : PV} (h : H[id]? = some (.box [x, y])) (lo : List Nat) : stA 2 (.ptr id 0) (.agg [.p a, .p b]) lo H = some (H.set id (.box [.p a, .p b])) :=
  stA_box (n := 2) (off := 0) (xs := [x, y]) (y := .agg [.p a, .p b]) h rfl (by simp) rfl (okLevels_p lo id [a, b])
theorem ldBox2 {H : Heap} {id : Nat} {x y : AV} (h : H[id]? = some (.box [x, y])) : ld true 2 (.ptr id 0) H = some (.agg [x, y]) := by
  rw [ldAgg_box h (by simp) (by simp)]
  rfl

theorem call6 (i j : Int) (lo : List Nat) (H : Heap) : ∃ n5 t5 n6 t6, callA cfg O 6 [Rw enc nl tg l, I n, I i, I j] lo H =
    some (.tup [.agg [V n5 t5 (pv l (code l n) i j).1, V n6 t6 (pv l (code l n) i j).2.1], I (pv l (code l n) i j).2.2], H) := by
  have key : ∃ n5 t5 n6 t6 H', O.ent 6 [Rw enc nl tg l, I n, I i, I j] [] [] = some ([.agg [V n5 t5 (pv l (code l n) i j).1, V n6 t6 (pv l (code l n) i j).2.1], I (pv l (code l n) i j).2.2], H') := by
    have e1 : boxO [] [(.p nilS), (.p nilS)] [] = some (.ptr 0 0, [.box [.p nilS, .p nilS]]) := rfl
    have eb0 : buildA [(.p nilS), (.p nilS)] [] = some (.agg [.p nilS, .p nilS]) := rfl
    have s0 := stBox2 (H := [.box [.p nilS, .p nilS]]) (id := 0) (x := .p nilS) (y := .p nilS) (a := nilS) (b := nilS) rfl []
    have bad : ∀ e : Int, e ≠ 0 → L6_11 [Rw enc nl tg l, I n, I i, I j, .ptr 0 0, I e] [] [.box [.p nilS, .p nilS]] = some ([.agg [V (some true) true [], V (some true) true []], I e], []) := by
      intro e he
      have l0 : ld true 2 (.ptr 0 0) [.box [.p nilS, .p nilS]] = some (.agg [.p nilS, .p nilS]) := rfl
      rw [L6_11_eq]
      simp only [core, he, eb0, s0, List.set_cons_zero, l0]
      exact leave0_agg [] _ [nilS, nilS] (Ia e)
    rw [f6_eq, e1]
    simp only [core, call77]
    unfold pv
    by_cases hp : pcode l (code l n) i j = 0
    · rw [if_pos hp]
      obtain ⟨h0, a, b, rfl, rfl, ha, hb⟩ := pcode0 hp
      have ea := idxE (nl := nl) (tg := tg) ha
      have eb := idxE (nl := nl) (tg := tg) hb
      simp only [core, hp, Int.toNat_natCast]
      cases hap : apO l (code l n) a b with
      | false =>
        simp only [core, Bool.false_and]
        exact ⟨_, _, _, _, _, bad 5 (by omega)⟩
      | true =>
        simp only [core, ea, eb, ldEv ha, ldEv hb, call15]
        cases hm : mt (l.getD a z0) (l.getD b z0) with
        | false =>
          simp only [core, Bool.and_false]
          exact ⟨_, _, _, _, _, bad 5 (by omega)⟩
        | true =>
          simp only [core, Bool.and_self]
          obtain ⟨n2, t2, S, e17, hS⟩ := call17 (l := l) (nl := nl) (tg := tg) (n := n)
          obtain ⟨hp1, hp2, hp3⟩ := hS h0
          obtain ⟨n5, t5, w1⟩ := call18 (n2 := n2) (t2 := t2) hp2 hp1 (by omega) ha [] [.box [.p nilS, .p nilS]]
          obtain ⟨n6, t6, w2⟩ := call18 (n2 := n2) (t2 := t2) hp2 hp1 (by omega) hb [] [.box [.p nilS, .p nilS]]
          have bd : buildA [(.p nilS), (.p nilS)] [(0, 1, V n5 t5 (way l a)), (1, 1, V n6 t6 (way l b))] = some (.agg [V n5 t5 (way l a), V n6 t6 (way l b)]) := rfl
          have s1 := stBox2 (H := [.box [.p nilS, .p nilS]]) (id := 0) (x := .p nilS) (y := .p nilS) (a := .sl n5 t5 (way l a).length ((way l a).map Ia)) (b := .sl n6 t6 (way l b).length ((way l b).map Ia)) rfl []
          have l1 : ld true 2 (.ptr 0 0) [.box [V n5 t5 (way l a), V n6 t6 (way l b)]] = some (.agg [V n5 t5 (way l a), V n6 t6 (way l b)]) := rfl
          rw [L6_11_eq]
          simp only [core, e17, w1, w2, bd, s1, List.set_cons_zero, l1]
          exact ⟨n5, t5, n6, t6, _, leave0_agg [] _ [.sl n5 t5 (way l a).length ((way l a).map Ia), .sl n6 t6 (way l b).length ((way l b).map Ia)] (Ia 0)⟩
    · rw [if_neg hp]
      simp only [core, hp]
      exact ⟨_, _, _, _, _, bad _ hp⟩
  obtain ⟨n5, t5, n6, t6, H', e⟩ := key
  exact ⟨n5, t5, n6, t6, callA_args rfl rfl e rfl⟩

/-- What Holds answers. -/
noncomputable def hv (l : List E) (S : List P2) (c i j : Int) (pI pJ : List Int) : Bool :=
  decide (pcode l c i j = 0) && (mt (l.getD i.toNat z0) (l.getD j.toNat z0) && (cl l.length S i j pI && cl l.length S j i pJ))

theorem call7 {n2 : Option Bool} {t2 : Bool} {S : List P2} (h17 : ∀ lo H, callA cfg O 17 [Rw enc nl tg l, I n] lo H = some (.tup [Rw encP n2 t2 S, I (code l n)], H)) (hS : code l n = 0 → S.Pairwise plt ∧ MemE l S ∧ S.length ≤ 100000)
    (hl : l.length ≤ 200) {nI nJ : Option Bool} {tI tJ : Bool} {pI pJ : List Int} (i j : Int) (lo : List Nat) (H : Heap) :
    callA cfg O 7 [Rw enc nl tg l, I n, I i, I j, .agg [V nI tI pI, V nJ tJ pJ]] lo H = some (.tup [B (hv l S (code l n) i j pI pJ), I (pcode l (code l n) i j)], H) := by
  have key : O.ent 7 [Rw enc nl tg l, I n, I i, I j, .agg [V nI tI pI, V nJ tJ pJ]] [] [] = some ([B (hv l S (code l n) i j pI pJ), I (pcode l (code l n) i j)], []) := by
    have e1 : boxO [] (AV.cells (.agg [V nI tI pI, V nJ tJ pJ])) [] = some (.ptr 0 0, [.box [V nI tI pI, V nJ tJ pJ]]) := rfl
    have l0 : ld false 1 (.ptr 0 (0 + 0)) [.box [V nI tI pI, V nJ tJ pJ]] = some (V nI tI pI) := rfl
    have l1 : ld false 1 (.ptr 0 (0 + 1)) [.box [V nI tI pI, V nJ tJ pJ]] = some (V nJ tJ pJ) := rfl
    have lf : ∀ (b : Bool) (e : Int) (G : Heap), leave 0 [] [B b, I e] G = some ([B b, I e], []) := fun _ _ _ => rfl
    rw [f7_eq, e1]
    simp only [core, call76]
    unfold hv
    by_cases hp : pcode l (code l n) i j = 0
    · obtain ⟨h0, a, b, rfl, rfl, ha, hb⟩ := pcode0 hp
      obtain ⟨hp1, hp2, hp3⟩ := hS h0
      have ea := idxE (nl := nl) (tg := tg) ha
      have eb := idxE (nl := nl) (tg := tg) hb
      have c20 := fun (nx : Option Bool) (tx : Bool) (zs : List Int) (x y : Int) => call20 (nl := nx) (tg := tx) (zs := zs) (n2 := n2) (t2 := t2) (S := S) (show S.length < 2 ^ 40 by omega) (L := (l.length : Int)) ⟨by omega, by omega⟩ x y [] [.box [V nI tI pI, V nJ tJ pJ]]
      simp only [core, hp, h17, ea, eb, ldEv ha, ldEv hb, call15, Int.toNat_natCast]
      cases hm : mt (l.getD a z0) (l.getD b z0) with
      | false => simp only [core, lf, Bool.false_and, Bool.and_false]
      | true =>
        simp only [core, l0, c20]
        cases hc : cl l.length S a b pI with
        | false => simp only [core, lf, Bool.false_and, Bool.and_false]
        | true => simp only [core, l1, c20, lf, Bool.true_and]
    · simp only [core, hp, lf, Bool.false_and]
  exact callA_args rfl rfl key rfl
end
end Ra
end Go.Proofs.Ytfdnamedmjhcfaa

/- Races: the law's walk. -/
set_option linter.unusedVariables false
set_option linter.unusedSimpArgs false
namespace Go.Proofs.Ytfdnamedmjhcfaa
open Go Go.AM Go.AM.Ck Cl
namespace Ra

theorem call13 {n1 n2 : Option Bool} {t1 t2 : Bool} {a : List Int} (ha : a.length < 2 ^ 40) (lo : List Nat) (H : Heap) : callA cfg O 13 [V n1 t1 a, V n2 t2 a] lo H = some (B true, H) :=
  callA_args rfl rfl (ent23 ha) rfl

theorem neq2 (a b : Int) : bin .neq (.agg 2 [(0, .int), (1, .int)]) (.agg [I a, I b]) (.agg [I a, I b]) = some (B false) := by
  simp [bin, leavesEq, leafEq, eqRes]

section
variable {l : List E} {nl : Option Bool} {tg : Bool} {n4 : Option Bool} {t4 : Bool}

theorem fin59 {G : Heap} {A : List P2} {qi qj : List Int} {n1 n2 n3 n5 : Option Bool} {t1 t2 t3 t5 : Bool} (h1 : G[1]? = some (.box [V n1 t1 qi, V n2 t2 qj])) (h2 : G[2]? = some (.box [V n3 t3 qi, V n5 t5 qj])) (hi : qi.length < 2 ^ 40) (hj : qj.length < 2 ^ 40) (e f g : Int) (b : Bool) :
    L3_59 [Rw encP n4 t4 A, I e, .ptr 1 0, I f, B b, I g, I e, I g, I f, I A.length, B b, .ptr 2 0] [] G = some ([B true], []) := by
  have q1 : ld false 1 (.ptr 1 (0 + 0)) G = some (V n1 t1 qi) := by rw [ld_box h1]; rfl
  have q2 : ld false 1 (.ptr 1 (0 + 1)) G = some (V n2 t2 qj) := by rw [ld_box h1]; rfl
  have q3 : ld false 1 (.ptr 2 (0 + 0)) G = some (V n3 t3 qi) := by rw [ld_box h2]; rfl
  have q4 : ld false 1 (.ptr 2 (0 + 1)) G = some (V n5 t5 qj) := by rw [ld_box h2]; rfl
  have hb : bin .eql .bool (B b) (B b) = some (B true) := by cases b <;> rfl
  rw [L3_59_eq]
  simp only [core, decide_true, q1, q2, q3, q4, call13 hi, call13 hj, hb]
  rfl

theorem loop36 {G : Heap} (hl : l.length ≤ 200) {y : Nat} (hy : y < l.length) (v2 v3 v9 v13 v14 v15 v16 v18 v19 v21 v22 : AV) : ∀ (c x : Nat), y - x = c → x ≤ y →
    L3_36 [Rw enc nl tg l, v2, v3, v9, Rw encP n4 t4 (rall l l.length), I 0, v13, v14, v15, v16, I 0, v18, v19, I (rall l y ++ rw1 l y x).length, v21, v22, I y, .p (.sl (some false) false l.length (rB (fun k => dec (Bf (ED l) k y)) l.length)), I x] [] G =
    L3_28 [Rw enc nl tg l, v2, v3, v9, Rw encP n4 t4 (rall l l.length), I 0, v13, v14, v15, v16, I 0, v18, v19, I (rall l (y + 1)).length, v21, v22, I ((y + 1 : Nat) : Int)] [] G := by
  intro c
  induction c with
  | zero =>
    intro x hc hx
    have : x = y := by omega
    subst this
    rw [L3_36_eq]
    simp only [core, Int.lt_irrefl]
    rw [wrap_id (by omega), nxt]
    rfl
  | succ c ih =>
    intro x hc hx
    have hxy : x < y := by omega
    have hxl : x < l.length := by omega
    have g : (x : Int) < y := by omega
    have w : IntKind.i64.wrap ((x : Int) + 1) = ((x + 1 : Nat) : Int) := by rw [wrap_id (by omega), nxt]
    have ei : idxA 1 (.p (.sl (some false) false l.length (rB (fun k => dec (Bf (ED l) k y)) l.length))) (I x) = some (.fp (rB (fun k => dec (Bf (ED l) k y)) l.length) x) := idxB hxl
    have el : ∀ G, ld false 1 (.fp (rB (fun k => dec (Bf (ED l) k y)) l.length) x) G = some (B (dec (Bf (ED l) x y))) := fun G => ldB hxl G
    have hcount : (rall l l.length).length ≤ 200 * 200 := Nat.le_trans (rall_len l _) (Nat.mul_le_mul hl hl)
    have go : rc l x y = false → L3_39 [Rw enc nl tg l, v2, v3, v9, Rw encP n4 t4 (rall l l.length), I 0, v13, v14, v15, v16, I 0, v18, v19, I (rall l y ++ rw1 l y x).length, v21, v22, I y, .p (.sl (some false) false l.length (rB (fun k => dec (Bf (ED l) k y)) l.length)), I x] [] G =
        L3_28 [Rw enc nl tg l, v2, v3, v9, Rw encP n4 t4 (rall l l.length), I 0, v13, v14, v15, v16, I 0, v18, v19, I (rall l (y + 1)).length, v21, v22, I ((y + 1 : Nat) : Int)] [] G := by
      intro hrc
      rw [L3_39_eq]
      simp only [core, w]
      have e : rw1 l y (x + 1) = rw1 l y x := by rw [rw1, hrc]; simp
      rw [← e]
      exact ih (x + 1) (by omega) (by omega)
    rw [L3_36_eq]
    simp only [core, g, idxE hxl, ldEv hxl, idxE hy, ldEv hy, call10]
    cases hm : mt (l.getD x z0) (l.getD y z0) with
    | false =>
      simp only [core]
      exact go (by unfold rc; rw [hm]; rfl)
    | true =>
      simp only [core, ei, el]
      cases hb : dec (Bf (ED l) x y) with
      | true =>
        simp only [core]
        exact go (by unfold rc; rw [hm, hb]; rfl)
      | false =>
        have hrc : rc l x y = true := by unfold rc; rw [hm, hb]; rfl
        have hnx := next_at l hxy hy hrc
        have hlt := getElem?_lt hnx
        have hlt' : ¬ ((rall l l.length).length : Int) ≤ ((rall l y ++ rw1 l y x).length : Nat) := by omega
        have hgt' : ¬ (((rall l y ++ rw1 l y x).length : Nat) : Int) ≥ ((rall l l.length).length : Int) := by omega
        have hv : (rall l l.length)[(rall l y ++ rw1 l y x).length] = ((x : Int), (y : Int)) := by rw [List.getElem?_eq_getElem hlt] at hnx; simpa using hnx
        have i1 : idxA 2 (Rw encP n4 t4 (rall l l.length)) (I (rall l y ++ rw1 l y x).length) = some (.fp ((rall l l.length).flatMap encP) ((rall l y ++ rw1 l y x).length * 2)) := idxR hlt
        have i2 : ∀ G, ld true 2 (.fp ((rall l l.length).flatMap encP) ((rall l y ++ rw1 l y x).length * 2)) G = some (.agg [I x, I y]) := fun G => by
          rw [ldR Cl.len2 hlt, hv]
          rfl
        have w2 : IntKind.i64.wrap (((rall l y ++ rw1 l y x).length : Int) + 1) = ((rall l y ++ rw1 l y (x + 1)).length : Int) := by
          rw [wrap_id (by omega), rw1, if_pos hrc]
          simp only [List.length_append, List.length_singleton]
          omega
        simp only [core, hlt', hgt', i1, i2, bld, neq2, w2]
        rw [L3_39_eq]
        simp only [core, w]
        exact ih (x + 1) (by omega) (by omega)

theorem loop28 {G : Heap} (hl : l.length ≤ 200) (v2 v3 v9 v13 v14 v15 v16 v18 v19 v21 v22 : AV) : ∀ (c y : Nat), l.length - y = c → y ≤ l.length →
    L3_28 [Rw enc nl tg l, v2, v3, v9, Rw encP n4 t4 (rall l l.length), I 0, v13, v14, v15, v16, I 0, v18, v19, I (rall l y).length, v21, v22, I y] [] G =
    L3_28 [Rw enc nl tg l, v2, v3, v9, Rw encP n4 t4 (rall l l.length), I 0, v13, v14, v15, v16, I 0, v18, v19, I (rall l l.length).length, v21, v22, I l.length] [] G := by
  intro c
  induction c with
  | zero =>
    intro y hc hy
    have : y = l.length := by omega
    subst this
    rfl
  | succ c ih =>
    intro y hc hy
    have hy' : y < l.length := by omega
    have g : (y : Int) < l.length := by omega
    refine Eq.trans ?_ (ih (y + 1) (by omega) (by omega))
    have := loop36 (nl := nl) (tg := tg) (n4 := n4) (t4 := t4) (G := G) hl hy' v2 v3 v9 v13 v14 v15 v16 v18 v19 v21 v22 y 0 rfl (by omega)
    rw [← this, L3_28_eq]
    simp only [core, g, call78 (nl := nl) (tg := tg) hy' (show l.length < 2 ^ 40 by omega)]
    simp only [rw1, List.append_nil]
    rfl
end
end Ra
end Go.Proofs.Ytfdnamedmjhcfaa

/- Races: the law's end. -/
set_option linter.unusedVariables false
set_option linter.unusedSimpArgs false
namespace Go.Proofs.Ytfdnamedmjhcfaa
open Go Go.AM Go.AM.Ck Cl
namespace Ra

theorem mt_ne {l : List E} {a b : Nat} (h : mt (l.getD a z0) (l.getD b z0) = true) : a ≠ b := by
  intro e
  subst e
  unfold mt at h
  simp at h

theorem apO_at {l : List E} {c : Int} {a b : Nat} (hp : pcode l c a b = 0) : apO l c a b = (!decide (a = b) && (!dec (Bf (ED l) a b) && !dec (Bf (ED l) b a))) := by
  unfold apO
  rw [Bool.eq_iff_iff, dec_iff]
  have hf : ∀ p : Prop, dec p = false ↔ ¬ p := fun p => ⟨fun h h2 => (by rw [dec_iff.mpr h2] at h; cases h), dec_f⟩
  simp only [Bool.and_eq_true, Bool.not_eq_true', decide_eq_false_iff_not, Int.toNat_natCast, hf]
  constructor
  · rintro ⟨_, h1, h2, h3⟩
    exact ⟨fun e => h1 (by omega), h2, h3⟩
  · rintro ⟨h1, h2, h3⟩
    exact ⟨hp, fun e => h1 (by omega), h2, h3⟩

section
variable {l : List E} {nl : Option Bool} {tg : Bool} {n4 : Option Bool} {t4 : Bool}

theorem exitC {G : Heap} {S : List P2} (hS : MemE l S) (hl : l.length ≤ 200) {a b : Nat} (ha : a < l.length) (hb : b < l.length) (hp : pcode l 0 a b = 0) {A : List P2} {pI pJ : List Int} {nI nJ n1 n2 : Option Bool} {tI tJ t1 t2 : Bool}
    (h0 : G[0]? = some (.box [V nI tI pI, V nJ tJ pJ])) (h1 : G[1]? = some (.box [V n1 t1 (pv l 0 a b).1, V n2 t2 (pv l 0 a b).2.1])) (h2 : G[2]? = some (.box [.p nilS, .p nilS])) :
    L3_28 [Rw enc nl tg l, I a, I b, .ptr 0 0, Rw encP n4 t4 A, I 0, .ptr 1 0, I (pv l 0 a b).2.2, B (hv l S 0 a b pI pJ), I 0, I 0, I 0, I 0, I A.length, B false, .ptr 2 0, I l.length] [] G = some ([B true], []) := by
  have q0 : ld false 1 (.ptr 0 (0 + 0)) G = some (V nI tI pI) := by rw [ld_box h0]; rfl
  have q1 : ld false 1 (.ptr 0 (0 + 1)) G = some (V nJ tJ pJ) := by rw [ld_box h0]; rfl
  have ea := idxE (nl := nl) (tg := tg) ha
  have eb := idxE (nl := nl) (tg := tg) hb
  have c11 := fun (nx : Option Bool) (tx : Bool) (zs : List Int) (x y : Int) => call11 (n1 := nl) (t1 := tg) (n2 := nx) (t2 := tx) (zs := zs) (show l.length < 2 ^ 39 by omega) hS x y [] G
  have wl : ∀ n, (way l n).length < 2 ^ 40 → True := fun _ _ => trivial
  have wlen : ∀ n, n < l.length → (way l n).length < 2 ^ 40 := fun n hn => by
    have := flt_len (fun k => dec (Bf (ED l) k n) || decide (k = n)) (n + 1)
    unfold way
    omega
  have ix : ∀ {k m : Nat}, m < l.length → idxA 1 (.p (.sl (some false) false l.length (rB (fun q => dec (Bf (ED l) q k)) l.length))) (I m) = some (.fp (rB (fun q => dec (Bf (ED l) q k)) l.length) m) := fun hm => idxB hm
  have il : ∀ {k m : Nat} (hm : m < l.length) (G : Heap), ld false 1 (.fp (rB (fun q => dec (Bf (ED l) q k)) l.length) m) G = some (B (dec (Bf (ED l) m k))) := fun hm G => ldB hm G
  have c78a := call78 (nl := nl) (tg := tg) ha (show l.length < 2 ^ 40 by omega) [] G
  have c78b := call78 (nl := nl) (tg := tg) hb (show l.length < 2 ^ 40 by omega) [] G
  have hvv : hv l S 0 a b pI pJ = (mt (l.getD a z0) (l.getD b z0) && (cl l.length S a b pI && cl l.length S b a pJ)) := by
    unfold hv
    rw [hp]
    simp only [decide_true, Bool.true_and, Int.toNat_natCast]
  have none5 : ∀ hb' : Bool, (apO l 0 a b && mt (l.getD a z0) (l.getD b z0)) = false → hv l S 0 a b pI pJ = hb' →
      L3_59 [Rw encP n4 t4 A, I 0, .ptr 1 0, I (pv l 0 a b).2.2, B (hv l S 0 a b pI pJ), I 0, I 0, I 0, I 5, I A.length, B hb', .ptr 2 0] [] G = some ([B true], []) := by
    intro hb' hf hh
    have e : pv l 0 a b = ([], [], 5) := by
      unfold pv
      rw [if_pos hp]
      simp only [Int.toNat_natCast]
      rw [if_neg (by rw [hf]; simp)]
    rw [e] at h1 ⊢
    rw [hh]
    exact fin59 (qi := []) (qj := []) (n3 := some true) (n5 := some true) (t3 := true) (t5 := true) h1 h2 (by simp) (by simp) 0 5 0 hb'
  rw [L3_28_eq]
  simp only [core, Int.lt_irrefl, ea, eb, ldEv ha, ldEv hb, call10]
  cases hm : mt (l.getD a z0) (l.getD b z0) with
  | false =>
    simp only [core]
    exact none5 false (by rw [hm]; simp) (by rw [hvv, hm]; rfl)
  | true =>
    have hne := mt_ne hm
    rw [hm] at hvv
    simp only [core, q0, c11]
    have main : ∀ hb' : Bool, hv l S 0 a b pI pJ = hb' → ∀ K : Res,
        K = (gd (B false) false (some (Rw enc nl tg l))).bind (fun _ => K) → True := fun _ _ _ _ => trivial
    cases hc : cl l.length S a b pI with
    | false =>
      rw [hc] at hvv
      simp only [core, ea, eb, ldEv ha, ldEv hb, call10, hm, c78a, ix hb, il hb]
      cases hba : dec (Bf (ED l) b a) with
      | true =>
        simp only [core]
        exact none5 false (by rw [apO_at hp, hba]; simp) (by rw [hvv]; rfl)
      | false =>
        simp only [core, c78b, ix ha, il ha]
        cases hab : dec (Bf (ED l) a b) with
        | true =>
          simp only [core]
          exact none5 false (by rw [apO_at hp, hab]; simp) (by rw [hvv]; rfl)
        | false =>
          have e : pv l 0 a b = (way l a, way l b, 0) := by
            unfold pv
            rw [if_pos hp]
            simp only [Int.toNat_natCast]
            rw [if_pos (by rw [apO_at hp, hab, hba, hm]; simp [hne])]
          rw [e] at h1 ⊢
          obtain ⟨n5, t5, w1⟩ := call12 (nl := nl) (tg := tg) ha (show l.length < 2 ^ 39 by omega) [] G
          obtain ⟨n6, t6, w2⟩ := call12 (nl := nl) (tg := tg) hb (show l.length < 2 ^ 39 by omega) [] G
          have bd : buildA [(.p nilS), (.p nilS)] [(0, 1, V n5 t5 (way l a)), (1, 1, V n6 t6 (way l b))] = some (.agg [V n5 t5 (way l a), V n6 t6 (way l b)]) := rfl
          have s1 := stBox2 (a := .sl n5 t5 (way l a).length ((way l a).map Ia)) (b := .sl n6 t6 (way l b).length ((way l b).map Ia)) h2 []
          simp only [core, w1, w2, bd, s1]
          rw [hvv]
          have hG2 := getElem?_lt h2
          exact fin59 (by rw [List.getElem?_set_ne (by omega)]; exact h1) (by rw [List.getElem?_set_self hG2]) (wlen a ha) (wlen b hb) 0 0 0 _
    | true =>
      rw [hc] at hvv
      simp only [core, q1, c11, ea, eb, ldEv ha, ldEv hb, call10, hm, c78a, ix hb, il hb]
      cases hba : dec (Bf (ED l) b a) with
      | true =>
        simp only [core]
        exact none5 _ (by rw [apO_at hp, hba]; simp) (by rw [hvv]; simp)
      | false =>
        simp only [core, c78b, ix ha, il ha]
        cases hab : dec (Bf (ED l) a b) with
        | true =>
          simp only [core]
          exact none5 _ (by rw [apO_at hp, hab]; simp) (by rw [hvv]; simp)
        | false =>
          have e : pv l 0 a b = (way l a, way l b, 0) := by
            unfold pv
            rw [if_pos hp]
            simp only [Int.toNat_natCast]
            rw [if_pos (by rw [apO_at hp, hab, hba, hm]; simp [hne])]
          rw [e] at h1 ⊢
          obtain ⟨n5, t5, w1⟩ := call12 (nl := nl) (tg := tg) ha (show l.length < 2 ^ 39 by omega) [] G
          obtain ⟨n6, t6, w2⟩ := call12 (nl := nl) (tg := tg) hb (show l.length < 2 ^ 39 by omega) [] G
          have bd : buildA [(.p nilS), (.p nilS)] [(0, 1, V n5 t5 (way l a)), (1, 1, V n6 t6 (way l b))] = some (.agg [V n5 t5 (way l a), V n6 t6 (way l b)]) := rfl
          have s1 := stBox2 (a := .sl n5 t5 (way l a).length ((way l a).map Ia)) (b := .sl n6 t6 (way l b).length ((way l b).map Ia)) h2 []
          simp only [core, w1, w2, bd, s1]
          rw [hvv]
          have hG2 := getElem?_lt h2
          simp only [Bool.true_and]
          exact fin59 (by rw [List.getElem?_set_ne (by omega)]; exact h1) (by rw [List.getElem?_set_self hG2]) (wlen a ha) (wlen b hb) 0 0 0 _

/-- Past the loops, where the place is none. -/
theorem exitP {G : Heap} {c p : Int} (hp : p ≠ 0) (i j : Int) {A : List P2} {n1 n2 : Option Bool} {t1 t2 : Bool} (m : Int) (hm : c ≠ 0 ∨ m = l.length)
    (h1 : G[1]? = some (.box [V n1 t1 [], V n2 t2 []])) (h2 : G[2]? = some (.box [.p nilS, .p nilS])) :
    L3_28 [Rw enc nl tg l, I i, I j, .ptr 0 0, Rw encP n4 t4 A, I c, .ptr 1 0, I p, B false, I p, I c, I p, I p, I A.length, B false, .ptr 2 0, I m] [] G = some ([B true], []) := by
  have f := fin59 (n4 := n4) (t4 := t4) (A := A) (qi := []) (qj := []) (n3 := some true) (n5 := some true) (t3 := true) (t5 := true) h1 h2 (by simp) (by simp) c p p false
  rw [L3_28_eq]
  rcases hm with hc | rfl
  · by_cases g : m < (l.length : Int)
    · simp only [core, g, hc, hp]
      exact f
    · simp only [core, g, hp]
      exact f
  · simp only [core, Int.lt_irrefl, hp]
    exact f

theorem call8 (n : Int) (lo : List Nat) (H : Heap) : callA cfg O 8 [Rw enc nl tg l, I n] lo H = some (I (code l n), H) :=
  callA_pure (xs := [.sl nl tg l.length (l.flatMap enc), Ia n]) (rs := [I (code l n)]) rfl ent73 rfl

theorem pv_bad {c i j : Int} (h : pcode l c i j ≠ 0) : pv l c i j = ([], [], pcode l c i j) := if_neg h
theorem hv_bad {S : List P2} {c i j : Int} {pI pJ : List Int} (h : pcode l c i j ≠ 0) : hv l S c i j pI pJ = false := by
  unfold hv
  rw [decide_eq_false h]
  rfl

theorem main21 (hl : l.length ≤ 200) {n : Int} {S : List P2} (hS : code l n = 0 → MemE l S) (i j : Int) {pI pJ : List Int} {nI nJ n1 n2 : Option Bool} {tI tJ t1 t2 : Bool} :
    L3_21 [Rw enc nl tg l, I i, I j, .ptr 0 0, Rw encP n4 t4 (if code l n = 0 then rall l l.length else []), I (code l n), .ptr 1 0, I (pv l (code l n) i j).2.2, B (hv l S (code l n) i j pI pJ), I (pcode l (code l n) i j), I (code l n), I (pcode l (code l n) i j)] []
      [.box [V nI tI pI, V nJ tJ pJ], .box [V n1 t1 (pv l (code l n) i j).1, V n2 t2 (pv l (code l n) i j).2.1]] = some ([B true], []) := by
  have e1 : ∀ x y : AObj, boxO [] [(.p nilS), (.p nilS)] [x, y] = some (.ptr 2 0, [x, y, .box [.p nilS, .p nilS]]) := fun _ _ => rfl
  rw [L3_21_eq]
  simp only [obs, e1]
  by_cases hc : code l n = 0
  · rw [if_pos hc]
    rw [hc]
    have hlp := loop28 (nl := nl) (tg := tg) (n4 := n4) (t4 := t4) (G := [.box [V nI tI pI, V nJ tJ pJ], .box [V n1 t1 (pv l 0 i j).1, V n2 t2 (pv l 0 i j).2.1], .box [.p nilS, .p nilS]]) hl (I i) (I j) (.ptr 0 0) (.ptr 1 0) (I (pv l 0 i j).2.2) (B (hv l S 0 i j pI pJ)) (I (pcode l 0 i j)) (I (pcode l 0 i j)) (I (pcode l 0 i j)) (B false) (.ptr 2 0) l.length 0 rfl (by omega)
    refine Eq.trans hlp ?_
    by_cases hp : pcode l 0 i j = 0
    · obtain ⟨_, a, b, rfl, rfl, ha, hb⟩ := pcode0 hp
      rw [hp]
      exact exitC (hS hc) hl ha hb hp rfl rfl rfl
    · rw [pv_bad hp, hv_bad hp]
      exact exitP hp i j _ (.inr rfl) rfl rfl
  · rw [if_neg hc]
    have hp : pcode l (code l n) i j ≠ 0 := by
      unfold pcode
      rw [if_neg (fun h => hc h.1)]
      exact hc
    rw [pv_bad hp, hv_bad hp]
    exact exitP (A := []) hp i j 0 (.inl hc) rfl rfl

theorem ent3 (n i j : Int) {pI pJ : List Int} {nI nJ : Option Bool} {tI tJ : Bool} : O.ent 3 [Rw enc nl tg l, I n, I i, I j, .agg [V nI tI pI, V nJ tJ pJ]] [] [] = some ([B true], []) := by
  have e1 : boxO [] (AV.cells (.agg [V nI tI pI, V nJ tJ pJ])) [] = some (.ptr 0 0, [.box [V nI tI pI, V nJ tJ pJ]]) := rfl
  obtain ⟨t', c4⟩ := call64 (l := l) (nl := nl) (tg := tg) 40 (by omega) [] [.box [V nI tI pI, V nJ tJ pJ]]
  have c4' : callA cfg O 4 [Rw enc nl tg l, I 40] [] [.box [V nI tI pI, V nJ tJ pJ]] = some (Rw enc nl t' (l.take 40), [.box [V nI tI pI, V nJ tJ pJ]]) := c4
  have hl : (l.take 40).length ≤ 200 := by rw [List.length_take]; omega
  generalize l.take 40 = q at *
  obtain ⟨n4, t4, c5⟩ := call5 (l := q) (nl := nl) (tg := t') n [] [.box [V nI tI pI, V nJ tJ pJ]]
  obtain ⟨n1, t1, n2, t2, c6⟩ := call6 (l := q) (nl := nl) (tg := t') (n := n) i j [] [.box [V nI tI pI, V nJ tJ pJ]]
  have e2 : boxO [] [(.p nilS), (.p nilS)] [.box [V nI tI pI, V nJ tJ pJ]] = some (.ptr 1 0, [.box [V nI tI pI, V nJ tJ pJ], .box [.p nilS, .p nilS]]) := rfl
  have s1 : stA 2 (.ptr 1 0) (.agg [V n1 t1 (pv q (code q n) i j).1, V n2 t2 (pv q (code q n) i j).2.1]) [] [.box [V nI tI pI, V nJ tJ pJ], .box [.p nilS, .p nilS]] = some [.box [V nI tI pI, V nJ tJ pJ], .box [V n1 t1 (pv q (code q n) i j).1, V n2 t2 (pv q (code q n) i j).2.1]] :=
    stBox2 (H := [.box [V nI tI pI, V nJ tJ pJ], .box [.p nilS, .p nilS]]) (id := 1) (x := .p nilS) (y := .p nilS) (a := .sl n1 t1 (pv q (code q n) i j).1.length ((pv q (code q n) i j).1.map Ia)) (b := .sl n2 t2 (pv q (code q n) i j).2.1.length ((pv q (code q n) i j).2.1.map Ia)) rfl []
  have l1 : ∀ o : AObj, ld true 2 (.ptr 0 0) [.box [V nI tI pI, V nJ tJ pJ], o] = some (.agg [V nI tI pI, V nJ tJ pJ]) := fun _ => rfl
  obtain ⟨nS, tS, S, h17, hS⟩ := call17 (l := q) (nl := nl) (tg := t') (n := n)
  have c7 := fun H => call7 h17 hS hl (nI := nI) (nJ := nJ) (tI := tI) (tJ := tJ) (pI := pI) (pJ := pJ) i j [] H
  have fin := main21 (nl := nl) (tg := t') (n4 := n4) (t4 := t4) hl (n := n) (S := S) (fun h => (hS h).2.1) i j (nI := nI) (nJ := nJ) (tI := tI) (tJ := tJ) (pI := pI) (pJ := pJ) (n1 := n1) (n2 := n2) (t1 := t1) (t2 := t2)
  rw [f3_eq, e1]
  simp only [obs, c4', c5, c6, extractA_tup, List.getElem?_cons_zero, List.getElem?_cons_succ, e2, s1, oms, l1, c7, call8]
  by_cases hc : code q n = 0
  · have hcd : decide (code q n = 0) = true := decide_eq_true hc
    have bad : (i < 0 ∨ (q.length : Int) ≤ i ∨ j < 0 ∨ (q.length : Int) ≤ j) → pcode q (code q n) i j = 1 := fun h => if_pos ⟨hc, h⟩
    by_cases h1 : i < 0
    · rw [bad (.inl h1)] at fin ⊢
      simp only [core, hcd, h1]
      exact fin
    by_cases h2 : (q.length : Int) ≤ i
    · rw [bad (.inr (.inl h2))] at fin ⊢
      simp only [core, hcd, h1, h2]
      exact fin
    by_cases h3 : j < 0
    · rw [bad (.inr (.inr (.inl h3)))] at fin ⊢
      simp only [core, hcd, h1, h2, h3]
      exact fin
    by_cases h4 : (q.length : Int) ≤ j
    · rw [bad (.inr (.inr (.inr h4)))] at fin ⊢
      simp only [core, hcd, h1, h2, h3, h4]
      exact fin
    · have hp : pcode q (code q n) i j = code q n := if_neg (by omega)
      simp only [core, hcd, h1, h2, h3, h4]
      refine Eq.trans ?_ fin
      conv => rhs; arg 1; rw [hp]
      conv => lhs; arg 1; rw [hp]
  · have hcd : decide (code q n = 0) = false := decide_eq_false hc
    have hp : pcode q (code q n) i j = code q n := if_neg (fun h => hc h.1)
    simp only [core, hcd]
    refine Eq.trans ?_ fin
    conv => rhs; arg 1; rw [hp]
    conv => lhs; arg 1; rw [hp]
end
end Ra
end Go.Proofs.Ytfdnamedmjhcfaa
