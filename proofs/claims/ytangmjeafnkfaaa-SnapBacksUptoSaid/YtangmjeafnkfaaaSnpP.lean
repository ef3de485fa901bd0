import Derived.Test.YtangmjeafnkfaaaSnpQ
set_option linter.unusedVariables false
set_option linter.unusedSimpArgs false
namespace Go.Proofs.Ytangmjeafnkfaaa
open Go Go.AM
namespace Snp

section
variable {r M : Nat} {lo : List Nat}

/-! ### A function's own variable, while it reads -/
structure LB (r M : Nat) (lo : List Nat) (H0 H : Heap) (xs : List AV) (zs : List Int) (bad : Bool) : Prop where
  rd : Rd r M lo H zs bad
  bx : H[H0.length]? = some (.box xs)
  kr : KR r H0.length H0 H
  ne : H0.length ≠ r
  lv : ∀ l ∈ lo, l ≤ H0.length

variable {H0 H : Heap} {xs : List AV} {zs : List Int} {bad : Bool}
theorem LB.new (h : Rd r M lo H0 zs bad) (xs : List AV) : LB r M lo H0 (H0 ++ [.box xs]) xs zs bad :=
  ⟨h.push _, by simp, KR.of (KN.push _ (Nat.le_refl _)), by have := h.lt; omega, by obtain ⟨x, _, _, _, _, h⟩ := h; exact fun l hl => (h l hl).2⟩

theorem LB.call {call : Heap → Option (AV × Heap)} {F : List Int → Prop} {post : AV → Heap → Nat → List Int → Prop} (h : LB r M lo H0 H xs zs bad) (hc : RS r M lo call F post) (hz : zs.length ≤ RLIM) :
    ∃ y H' zs' bad' out, call H = some (y, H') ∧ LB r M lo H0 H' xs zs' bad' ∧ Tr zs bad zs' bad' out F ∧ post y H' H.length out ∧ KR r H.length H H' ∧ zs'.length ≤ RLIM := by
  obtain ⟨y, H', zs', bad', out, e, hR, hK, hT, hp⟩ := hc H zs bad h.rd hz
  have hlt := getElem?_lt h.bx
  exact ⟨y, H', zs', bad', out, e, ⟨hR, by rw [hK.2 _ hlt h.ne]; exact h.bx, h.kr.trans hK h.kr.1, h.ne, h.lv⟩, hT, hp, hK, Nat.le_trans hT.len hz⟩

theorem LB.put (h : LB r M lo H0 H xs zs bad) (ys : List AV) : LB r M lo H0 (H.set H0.length (.box ys)) ys zs bad := by
  refine ⟨h.rd.set h.ne h.bx, by rw [List.getElem?_set_self (getElem?_lt h.bx)], ⟨by rw [List.length_set]; exact h.kr.1, fun j hj hr => ?_⟩, h.ne, h.lv⟩
  rw [List.getElem?_set_ne (by omega)]
  exact h.kr.2 j hj hr

theorem okLo {b : Nat} {lo : List Nat} (h : ∀ l ∈ lo, l ≤ b) (ys : List AV) : okLevels lo b ys = true := by
  simp only [okLevels, List.all_eq_true, Bool.or_eq_true, decide_eq_true_eq]
  exact fun l hl => .inl (h l hl)

theorem LB.st (h : LB r M lo H0 H xs zs bad) {off n : Nat} {y : AV} (hy : y.cells.length = n) (hl : y.cells.all AV.leaf = true) (ho : off + n ≤ xs.length) (h0 : 0 < xs.length) : stA n (.ptr H0.length off) y lo H = some (H.set H0.length (.box (splice xs off y.cells))) :=
  stA_box h.bx hy ho hl (okLo h.lv _) h0

theorem LB.ld (h : LB r M lo H0 H xs zs bad) {n : Nat} (hn : n = xs.length) (h0 : 0 < xs.length) : ld true n (.ptr H0.length 0) H = some (.agg xs) := by
  rw [ldAgg_box h.bx (by omega) h0, List.drop_zero, List.take_of_length_le (by omega)]

theorem lst_set {sz m b : Nat} {o : AV} {H : Heap} {cs : List PV} {xs ys : List AV} (h : Lst sz o H m cs) (hb : H[b]? = some (.box xs)) : Lst sz o (H.set b (.box ys)) m cs := by
  obtain ⟨hl, ⟨nl, rfl, h1⟩ | ⟨id, g, rfl, ho⟩⟩ := h
  · exact ⟨hl, .inl ⟨nl, rfl, h1⟩⟩
  · exact ⟨hl, .inr ⟨id, g, rfl, by rw [List.getElem?_set_ne fun e => by rw [e, ho] at hb; cases hb]; exact ho⟩⟩

theorem New.mono {N K : Nat} {o : AV} (h : New N o) (hk : K ≤ N) : New K o := fun id g off n e => Nat.le_trans hk (h id g off n e)

/-! ### Pairs of numbers -/
def postV (y : AV) (_ : Heap) (_ : Nat) (out : List Int) : Prop := ∃ p : Int × Int, y = .agg [I p.1, I p.2] ∧ out = [p.1, p.2]
abbrev two : List Int → Prop := Seq one one

theorem pair (h : LB r M lo H0 H xs zs bad) (hz : zs.length ≤ RLIM) : ∃ a c H2 H3 zs3 bad3, callA cfg O 113 [.ptr r 0] lo H = some (I a, H2) ∧ callA cfg O 113 [.ptr r 0] lo H2 = some (I c, H3) ∧ LB r M lo H0 H3 xs zs3 bad3 ∧ Tr zs bad zs3 bad3 [a, c] two ∧ zs3.length ≤ RLIM ∧ KR r H.length H H3 := by
  obtain ⟨_, H2, z2, b2, _, e2, h2, t2, ⟨a, rfl, rfl⟩, k2, l2⟩ := h.call call113 hz
  obtain ⟨_, H3, z3, b3, _, e3, h3, t3, ⟨c, rfl, rfl⟩, k3, l3⟩ := h2.call call113 l2
  exact ⟨a, c, H2, H3, z3, b3, e2, e3, h3, t2.comp t3, l3, k2.trans k3 k2.1⟩

theorem call112 : RS r M lo (fun H => callA cfg O 112 [.ptr r 0] lo H) two postV := by
  intro H zs bad hR hz
  have hb : boxO [] [I 0, I 0] H = some (.ptr H.length 0, H ++ [.box [I 0, I 0]]) := boxO_p [Ia 0, Ia 0] H
  obtain ⟨a, c, H2, H3, z3, b3, e2, e3, h3, t3, _, _⟩ := pair (LB.new hR [I 0, I 0]) hz
  have hbu : buildA [I 0, I 0] [(0, 1, I a), (1, 1, I c)] = some (.agg [I a, I c]) := rfl
  have hs := h3.st (off := 0) (n := 2) (y := .agg [I a, I c]) rfl rfl (by simp) (by simp)
  have h4 := h3.put [I a, I c]
  refine ⟨.agg [I a, I c], _, z3, b3, [a, c], callA_keep (rs := [.agg [I a, I c]]) rfl ?_, h4.rd, h4.kr, t3, (a, c), rfl, rfl⟩
  rw [f112_eq]
  simp only [hb, obs, e2, e3, hbu]
  rw [show stA 2 (.ptr H.length 0) (.agg [I a, I c]) lo H3 = some (H3.set H.length (.box [I a, I c])) from hs]
  simp only [oms, obs, h4.ld (n := 2) rfl (by simp)]
  rfl

theorem call104 : RS r M lo (fun H => callA cfg O 104 [.ptr r 0] lo H) two postV := by
  intro H zs bad hR hz
  have hb : boxO [] [I 0, I 0] H = some (.ptr H.length 0, H ++ [.box [I 0, I 0]]) := boxO_p [Ia 0, Ia 0] H
  obtain ⟨a, c, H2, H3, z3, b3, e2, e3, h3, t3, _, _⟩ := pair (LB.new hR [I 0, I 0]) hz
  have hbu : buildA [I 0, I 0] [(0, 1, I a), (1, 1, I c)] = some (.agg [I a, I c]) := rfl
  have hs := h3.st (off := 0) (n := 2) (y := .agg [I a, I c]) rfl rfl (by simp) (by simp)
  have h4 := h3.put [I a, I c]
  refine ⟨.agg [I a, I c], _, z3, b3, [a, c], callA_keep (rs := [.agg [I a, I c]]) rfl ?_, h4.rd, h4.kr, t3, (a, c), rfl, rfl⟩
  rw [f104_eq]
  simp only [hb, obs, e2, e3, hbu]
  rw [show stA 2 (.ptr H.length 0) (.agg [I a, I c]) lo H3 = some (H3.set H.length (.box [I a, I c])) from hs]
  simp only [oms, obs, h4.ld (n := 2) rfl (by simp)]
  rfl

theorem call153 : RS r M lo (fun H => callA cfg O 153 [.ptr r 0] lo H) two postV := by
  intro H zs bad hR hz
  have hb : boxO [] [I 0, I 0] H = some (.ptr H.length 0, H ++ [.box [I 0, I 0]]) := boxO_p [Ia 0, Ia 0] H
  obtain ⟨a, c, H2, H3, z3, b3, e2, e3, h3, t3, _, _⟩ := pair (LB.new hR [I 0, I 0]) hz
  have hbu : buildA [I 0, I 0] [(0, 1, I a), (1, 1, I c)] = some (.agg [I a, I c]) := rfl
  have hs := h3.st (off := 0) (n := 2) (y := .agg [I a, I c]) rfl rfl (by simp) (by simp)
  have h4 := h3.put [I a, I c]
  refine ⟨.agg [I a, I c], _, z3, b3, [a, c], callA_keep (rs := [.agg [I a, I c]]) rfl ?_, h4.rd, h4.kr, t3, (a, c), rfl, rfl⟩
  rw [f153_eq]
  simp only [hb, obs, e2, e3, hbu]
  rw [show stA 2 (.ptr H.length 0) (.agg [I a, I c]) lo H3 = some (H3.set H.length (.box [I a, I c])) from hs]
  simp only [oms, obs, h4.ld (n := 2) rfl (by simp)]
  rfl

theorem RS.post {call : Heap → Option (AV × Heap)} {F : List Int → Prop} {p q : AV → Heap → Nat → List Int → Prop} (h : RS r M lo call F p) (hp : ∀ y H N out, p y H N out → q y H N out) : RS r M lo call F q := by
  intro H zs bad hR hz
  obtain ⟨y, H', zs', bad', out, e, h1, h2, h3, h4⟩ := h H zs bad hR hz
  exact ⟨y, H', zs', bad', out, e, h1, h2, h3, hp _ _ _ _ h4⟩

theorem postV_O {y : AV} {H : Heap} {N : Nat} {out : List Int} (h : postV y H N out) : postO enc_Val fv (fun _ => True) y H N out := by
  obtain ⟨p, rfl, rfl⟩ := h
  exact ⟨p, trivial, .inl ⟨rfl, .inl ⟨rfl, trivial⟩⟩, rfl⟩
theorem two_ne {w : List Int} (h : two w) : w ≠ [] := by
  obtain ⟨a, c, rfl, ⟨n, rfl⟩, ⟨m, rfl⟩⟩ := h; simp

theorem someVal : RS r M lo (fun H => callA cfg O 111 [.ptr r 0, .fn 112 [.ptr r 0] []] lo H) (FS two) (postS 2 enc_Val fv fun _ => True) :=
  call111 len_Val (fun w => two_ne) fun lo' => (call112 (lo := lo')).post fun _ _ _ _ => postV_O
theorem someShape : RS r M lo (fun H => callA cfg O 103 [.ptr r 0, .fn 104 [.ptr r 0] []] lo H) (FS two) (postS 2 enc_Shape fsh fun _ => True) :=
  call103 len_Shape (fun w => two_ne) fun lo' => (call104 (lo := lo')).post fun _ _ _ _ => postV_O
theorem someTry : RS r M lo (fun H => callA cfg O 152 [.ptr r 0, .fn 153 [.ptr r 0] []] lo H) (FS two) (postS 2 enc_Try ft fun _ => True) :=
  call152 len_Try (fun w => two_ne) fun lo' => (call153 (lo := lo')).post fun _ _ _ _ => postV_O
end
end Snp
end Go.Proofs.Ytangmjeafnkfaaa
