import Derived.Test.YtjncpgcbgdkflaaPuU
set_option linter.unusedVariables false
set_option linter.unusedSimpArgs false
namespace Go.Proofs.Ytjncpgcbgdkflaa
open Go Go.AM
namespace Spool
abbrev z1 : List PV := [(.v (.int .u8 0))]
abbrev Vp (nl : Option Bool) (tg : Bool) (bs : List Nat) : PV := .sl nl tg bs.length (bs.map U8)

theorem call58n {n : Nat} (h0 : 0 < n) (hn : n ≤ 5000) : ∃ zs, callA cfg O 58 [.p nilS, I n] [] [] = some (.row 0 0 0 0, [.row 0 1 zs]) := by
  have hc : capA (.p nilS) = some (I 0) := rfl
  have hcut : cutA 1 (.p nilS) none (some (I 0)) none [] = some (.p nilS) := rfl
  have hz : appZ 1 1 z1 (.p nilS) (I n) [] = some (.row 0 0 0 n, [.row 0 1 (zerosA n z1)]) := by
    simp only [appZ, asI, obs, appTo]
    rw [if_pos (by simp only [room, Int.toNat_natCast]; omega), if_neg (by rw [Int.toNat_natCast]; omega), if_pos (by simp only [room, Int.toNat_natCast]; omega)]
    rw [Int.toNat_natCast]
    rfl
  have hcut2 := cutA_row_hi (sz := 1) (g := 0) (n := n) (h := 0) (H := [.row 0 1 (zerosA n z1)]) (id := 0) rfl (by omega)
  refine ⟨zerosA n z1, callA_keep (rs := [.row 0 0 0 0]) rfl ?_⟩
  rw [f58_eq]
  have g1 : ¬ (n : Int) < 0 := by omega
  have g2 : (0 : Int) < n := by omega
  simp only [core, g1]
  rw [L58_9_eq]
  have w1 : IntKind.i64.wrap (0 - ((0 : Nat) : Int)) = 0 := rfl
  have w2 : IntKind.i64.wrap ((n : Int) - 0) = n := by rw [wrap_id (by omega)]; omega
  have hlen : lenA .slice (.p nilS) ([] : Heap) = some (I (0 : Nat)) := rfl
  have hlen2 : lenA .slice (.p nilS) ([.row 0 1 (zerosA n z1)] : Heap) = some (I 0) := rfl
  simp only [hc, hlen, obs, bin_sub, w1, w2, bin_gtr, g2, decide_true, cond_B, if_true, hcut, hz, hlen2, hcut2]
  rw [L58_15_eq]
  rfl

section
variable {n1 n2 n3 : Option Bool} {t1 t2 t3 : Bool} {a b c : List Nat}
abbrev three3 (x y z : PV) : AV := .p (.sl (some false) true 3 [x, y, z])
theorem ix0 (x y z : PV) : idxA 1 (three3 x y z) (I 0) = some (.fp [x, y, z] 0) := rfl
theorem ix1 (x y z : PV) : idxA 1 (three3 x y z) (I 1) = some (.fp [x, y, z] 1) := rfl
theorem ix2 (x y z : PV) : idxA 1 (three3 x y z) (I 2) = some (.fp [x, y, z] 2) := rfl
theorem s8 {v0 v3 x y z : PV} {w : AV} {i : Nat} {v : PV} {k n : Int} (hi : (i : Int) < 3) (hx : [x, y, z][i]? = some v) (hl : ∀ H, lenA .slice (.p v) H = some (I k)) (h0 : 0 ≤ n) (h1 : 0 ≤ k) (h2 : n + k < 2 ^ 60) :
    L41_8 [w, I n, three3 x y z, I 3, I i] [] [] = L41_8 [w, I (n + k), three3 x y z, I 3, I ((i + 1 : Nat) : Int)] [] [] := by
  rw [L41_8_eq]
  have e : idxA 1 (three3 x y z) (I i) = some (.fp [x, y, z] i) := by
    have := idxA_sl (sz := 1) (n := 3) (nl := some false) (t := true) (xs := [x, y, z]) (j := (i : Int)) (by omega)
    simpa using this
  have e2 : ld false 1 (.fp [x, y, z] i) [] = some (.p v) := by rw [ld_fp, hx]; rfl
  simp only [core, hi, e, e2, hl]
  rw [wrap_id (by omega), if_neg (by simp; omega), L41_19_eq]
  simp only [core]
  rw [wrap_id (by omega)]
  rfl

theorem s24 {x y z v : PV} {i : Nat} {o o' : AV} {H H' : Heap} (hi : (i : Int) < 3) (hx : [x, y, z][i]? = some v) (ha : appA 1 1 o (.p v) H = some (o', H')) :
    L41_24 [o, three3 x y z, I 3, I i] [] H = L41_24 [o', three3 x y z, I 3, I ((i + 1 : Nat) : Int)] [] H' := by
  rw [L41_24_eq]
  have e : idxA 1 (three3 x y z) (I i) = some (.fp [x, y, z] i) := by
    have := idxA_sl (sz := 1) (n := 3) (nl := some false) (t := true) (xs := [x, y, z]) (j := (i : Int)) (by omega)
    simpa using this
  have e2 : ld false 1 (.fp [x, y, z] i) H = some (.p v) := by rw [ld_fp, hx]; rfl
  simp only [core, hi, e, e2, ha]
  rw [wrap_id (by omega)]
  rfl

theorem call41 (ha : a.length ≤ 4000) (hb : b.length = 9) (hc : c.length = 4) (lo : List Nat) (H : Heap) : ∃ nl tg, callA cfg O 41 [three3 (Vp n1 t1 a) (Vp n2 t2 b) (Vp n3 t3 c)] lo H = some (V nl tg (a ++ b ++ c), H) := by
  have key : ∃ nl tg H', O.ent 41 [three3 (Vp n1 t1 a) (Vp n2 t2 b) (Vp n3 t3 c)] [] [] = some ([V nl tg (a ++ b ++ c)], H') := by
    rw [f41_eq]
    have hl : lenA .slice (three3 (Vp n1 t1 a) (Vp n2 t2 b) (Vp n3 t3 c)) [] = some (I 3) := rfl
    simp only [hl, obs]
    have q0 := s8 (w := three3 (Vp n1 t1 a) (Vp n2 t2 b) (Vp n3 t3 c)) (x := Vp n1 t1 a) (y := Vp n2 t2 b) (z := Vp n3 t3 c) (i := 0) (n := 0) (k := a.length) (by omega) rfl (fun _ => rfl) (by omega) (by omega) (by omega) (v0 := Vp n1 t1 a) (v3 := Vp n1 t1 a)
    have q1 := s8 (w := three3 (Vp n1 t1 a) (Vp n2 t2 b) (Vp n3 t3 c)) (x := Vp n1 t1 a) (y := Vp n2 t2 b) (z := Vp n3 t3 c) (i := 1) (n := 0 + a.length) (k := b.length) (by omega) rfl (fun _ => rfl) (by omega) (by omega) (by omega) (v0 := Vp n1 t1 a) (v3 := Vp n1 t1 a)
    have q2 := s8 (w := three3 (Vp n1 t1 a) (Vp n2 t2 b) (Vp n3 t3 c)) (x := Vp n1 t1 a) (y := Vp n2 t2 b) (z := Vp n3 t3 c) (i := 2) (n := 0 + a.length + b.length) (k := c.length) (by omega) rfl (fun _ => rfl) (by omega) (by omega) (by omega) (v0 := Vp n1 t1 a) (v3 := Vp n1 t1 a)
    simp only [Nat.reduceAdd, Int.cast_ofNat_Int] at q0 q1 q2
    rw [q0, q1, q2, L41_8_eq]
    obtain ⟨zs, hg⟩ := call58n (n := a.length + 9 + 4) (by omega) (by omega)
    have hn : (0 + (a.length : Int) + b.length + c.length) = ((a.length + 9 + 4 : Nat) : Int) := by omega
    rw [hn]
    simp only [core, hg, hl, show ¬ ((3 : Int) < 3) by omega]
    have hl2 : lenA .slice (three3 (Vp n1 t1 a) (Vp n2 t2 b) (Vp n3 t3 c)) [.row 0 1 zs] = some (I 3) := rfl
    have c1 : ∀ (nl : Option Bool) (tg : Bool) (l : List Nat) H, cellsA 1 (.p (Vp nl tg l)) H = some (l.length, l.map U8) := fun nl tg l H => if_pos (by simp)
    have a1 : appA 1 1 (.row 0 0 0 0) (.p (Vp n1 t1 a)) [.row 0 1 zs] = some (.row 0 1 0 a.length, [.row 1 1 (a.map U8)]) := by
      simp only [appA, c1, obs, appTo, List.getElem?_cons_zero]
      rw [if_pos (by simp only [room, true_and]; omega)]
      simp
    have a2 : appA 1 1 (.row 0 1 0 a.length) (.p (Vp n2 t2 b)) [.row 1 1 (a.map U8)] = some (.row 0 2 0 (a.length + b.length), [.row 2 1 (a.map U8 ++ b.map U8)]) := by
      simp only [appA, c1, obs, appTo, List.getElem?_cons_zero]
      rw [if_pos (by simp only [room, true_and, List.length_map]; omega)]
      simp [List.take_of_length_le]
    have a3 : appA 1 1 (.row 0 2 0 (a.length + b.length)) (.p (Vp n3 t3 c)) [.row 2 1 (a.map U8 ++ b.map U8)] = some (.row 0 3 0 (a.length + b.length + c.length), [.row 3 1 (a.map U8 ++ b.map U8 ++ c.map U8)]) := by
      simp only [appA, c1, obs, appTo, List.getElem?_cons_zero]
      rw [if_pos (by simp only [room, true_and, List.length_map, List.length_append]; omega)]
      simp [List.take_of_length_le, Nat.add_assoc]
    have p0 := s24 (x := Vp n1 t1 a) (y := Vp n2 t2 b) (z := Vp n3 t3 c) (i := 0) (by omega) rfl a1
    have p1 := s24 (x := Vp n1 t1 a) (y := Vp n2 t2 b) (z := Vp n3 t3 c) (i := 1) (by omega) rfl a2
    have p2 := s24 (x := Vp n1 t1 a) (y := Vp n2 t2 b) (z := Vp n3 t3 c) (i := 2) (by omega) rfl a3
    simp only [Nat.reduceAdd, Int.cast_ofNat_Int] at p0 p1 p2
    have hL : Lst 1 (.row 0 3 0 (a.length + b.length + c.length)) [.row 3 1 (a.map U8 ++ b.map U8 ++ c.map U8)] (a.length + b.length + c.length) (a.map U8 ++ b.map U8 ++ c.map U8) := Lst.row (by simp [Nat.add_assoc]) rfl
    obtain ⟨nl, tg, H', e⟩ := hL.leave1 []
    refine ⟨nl, tg, H', ((p0.trans p1).trans p2).trans ?_⟩
    rw [L41_24_eq]
    simp only [obs, bin_lss, show ¬ ((3 : Int) < 3) by omega, decide_false, cond_B, Bool.false_eq_true, if_false, e]
    show _ = some ([AV.p (.sl nl tg (a ++ b ++ c).length ((a ++ b ++ c).map U8))], H')
    rw [List.length_append, List.length_append, List.map_append, List.map_append]
  obtain ⟨nl, tg, H', e⟩ := key
  exact ⟨nl, tg, callA_args rfl rfl e rfl⟩
end
end Spool
end Go.Proofs.Ytjncpgcbgdkflaa
