import Derived.Test.YtangmjeafnkfaaaFlatS
set_option linter.unusedVariables false
set_option linter.unusedSimpArgs false
namespace Go.Proofs.Ytangmjeafnkfaaa
open Go Go.AM
namespace Flat

def fcs (l : A_LCell) : List Int := (l.2.length : Int) :: l.2.flatMap fc
def fshs (l : A_LShape) : List Int := (l.2.length : Int) :: l.2.flatMap fsh
def ftxs (l : A_Lstr) : List Int := (l.2.length : Int) :: l.2.flatMap ftx
def fths (l : A_LThread) : List Int := (l.2.length : Int) :: l.2.flatMap fth
def fes (l : A_LEnd) : List Int := (l.2.length : Int) :: l.2.flatMap fe
def flat (s : A_State) : List Int := fcs s.1 ++ fshs s.2.1 ++ ftxs s.2.2.1 ++ fths s.2.2.2.1 ++ fes s.2.2.2.2.1 ++ fvs s.2.2.2.2.2.1 ++ [s.2.2.2.2.2.2.1, s.2.2.2.2.2.2.2]

theorem lt63 {n : Nat} (h : n ≤ maxLen) : n < 2 ^ 63 := by simp only [maxLen] at h; omega

theorem call18 (s : A_State) (ok : ok_State s) (hb : (flat s).length ≤ LIM) (lo : List Nat) (H : Heap) : ∃ nl tg, callA cfg O 18 [.agg ((enc_State s).map .p)] lo H = some (.p (.sl nl tg (flat s).length ((flat s).map Ia)), H) := by
  have key : ∃ nl tg H', O.ent 18 [.agg ((enc_State s).map .p)] [] [] = some ([.p (.sl nl tg (flat s).length ((flat s).map Ia))], H') := by
    obtain ⟨okC, okS, okT, okH, okE, okV, _, _⟩ := ok
    simp only [flat, List.length_append] at hb
    have e1 : boxO [] (AV.cells (.agg ((enc_State s).map .p))) [] = some (.ptr 0 0, [.box ((enc_State s).map .p)]) := boxO_p _ []
    have e2 : buildA [.p nilS] [] = some (.agg [.p nilS]) := rfl
    have e3 : boxO [] (AV.cells (.agg [.p nilS])) [.box ((enc_State s).map .p)] = some (.ptr 1 0, [.box ((enc_State s).map .p), .box [.p nilS]]) := boxO_p [nilS] [.box ((enc_State s).map .p)]
    have e4 : boxO [] [.p (.v (.pointer none))] [.box ((enc_State s).map .p), .box [.p nilS]] = some (.ptr 2 0, [.box ((enc_State s).map .p), .box [.p nilS], .box [.p (.v (.pointer none))]]) := boxO_p [.v (.pointer none)] [.box ((enc_State s).map .p), .box [.p nilS]]
    have e5 : stA 1 (.ptr 2 0) (.ptr 1 0) [] [.box ((enc_State s).map .p), .box [.p nilS], .box [.p (.v (.pointer none))]] = some [.box ((enc_State s).map .p), .box [.p nilS], .box [.ptr 1 0]] := rfl
    have hW : Wr 1 [.box ((enc_State s).map .p), .box [.p nilS], .box [.ptr 1 0]] [] := ⟨.p nilS, rfl, Lst.nil 1 _⟩
    have hV : Has 1 2 [.box ((enc_State s).map .p), .box [.p nilS], .box [.ptr 1 0]] := ⟨by omega, rfl⟩
    have hS : ([.box ((enc_State s).map .p), .box [.p nilS], .box [.ptr 1 0]] : Heap)[0]? = some (.box ((enc_State s).map .p)) := rfl
    rw [f18_eq, e1]
    simp only [obs, e2, e3, e4, e5, oms]
    generalize ([.box ((enc_State s).map .p), .box [.p nilS], .box [.ptr 1 0]] : Heap) = H0 at hW hV hS
    have hld : ∀ H, Has 1 2 H → ld false 1 (.ptr 2 0) H = some (.ptr 1 0) := fun H h => by rw [ld_box h.2]; rfl
    obtain ⟨x1, H1, c1, w1, k1⟩ := call62 (w := 1) (nl := s.1.1) (tg := false) len_Cell (G := fun _ => True) (fun _ _ _ h => h) (cl := .fn 63 [.ptr 1 0] []) (out := fc) (l := s.1.2) (fun x hx => call63 x (okC.2 x hx)) (lt63 okC.1) H0 [] hW (by simp [fcs] at hb ⊢; omega) trivial
    have v1 := Has.keep _ _ k1 hV
    have s1 := k1.2 0 _ (by omega) hS
    obtain ⟨x2, H2, c2, w2, k2⟩ := call64 (w := 1) (nl := s.2.1.1) (tg := false) len_Shape (G := Has 1 2) Has.keep (cl := .fn 65 [] [.ptr 2 0]) (out := fsh) (l := s.2.1.2) (fun x hx => call65 x) (lt63 okS.1) H1 _ w1 (by simp [fcs, fshs] at hb ⊢; omega) v1
    have v2 := Has.keep _ _ k2 v1
    have s2 := k2.2 0 _ (by omega) s1
    obtain ⟨x3, H3, c3, w3, k3⟩ := call67 (w := 1) (nl := s.2.2.1.1) (tg := false) (G := fun _ => True) (fun _ _ _ h => h) (enc := fun z => PV.v (.string z)) (cl := .fn 68 [.ptr 1 0] []) (out := ftx) (l := s.2.2.1.2) (fun x hx => call68 x (okT.2 x hx)) (lt63 okT.1) H2 _ w2 (by simp [fcs, fshs, ftxs] at hb ⊢; omega) trivial
    have v3 := Has.keep _ _ k3 v2
    have s3 := k3.2 0 _ (by omega) s2
    obtain ⟨x4, H4, c4, w4, k4⟩ := call69 (w := 1) (nl := s.2.2.2.1.1) (tg := false) len_Thread (G := fun _ => True) (fun _ _ _ h => h) (cl := .fn 70 [.ptr 1 0] []) (out := fth) (l := s.2.2.2.1.2) (fun x hx => call70 x (okH.2 x hx)) (lt63 okH.1) H3 _ w3 (by simp [fcs, fshs, ftxs, fths] at hb ⊢; omega) trivial
    have v4 := Has.keep _ _ k4 v3
    have s4 := k4.2 0 _ (by omega) s3
    obtain ⟨x5, H5, c5, w5, k5⟩ := call71 (w := 1) (nl := s.2.2.2.2.1.1) (tg := false) len_End (G := fun _ => True) (fun _ _ _ h => h) (cl := .fn 72 [.ptr 1 0] []) (out := fe) (l := s.2.2.2.2.1.2) (fun x hx => call72 x) (lt63 okE.1) H4 _ w4 (by simp [fcs, fshs, ftxs, fths, fes] at hb ⊢; omega) trivial
    have v5 := Has.keep _ _ k5 v4
    have s5 := k5.2 0 _ (by omega) s4
    obtain ⟨x6, H6, c6, w6, k6⟩ := callVals (w := 1) s.2.2.2.2.2.1 (lt63 okV.1) H5 _ w5 (by simp [fcs, fshs, ftxs, fths, fes] at hb ⊢; omega) trivial
    have v6 := Has.keep _ _ k6 v5
    have s6 := k6.2 0 _ (by omega) s5
    obtain ⟨x7, H7, c7, w7, k7⟩ := lit66 (w := 1) (zs := [s.2.2.2.2.2.2.1, s.2.2.2.2.2.2.2]) (n := 2) rfl (by simp) H6 _ w6 (by simp [fcs, fshs, ftxs, fths, fes] at hb ⊢; omega) trivial
    have v7 := Has.keep _ _ k7 v6
    have hlit : ∀ H, litA false 1 [I s.2.2.2.2.2.2.1, I s.2.2.2.2.2.2.2] H = some (.p (.sl (some false) true 2 ([s.2.2.2.2.2.2.1, s.2.2.2.2.2.2.2].map Ia)), H) := fun H => rfl
    obtain ⟨o, ho, hL⟩ := w7
    have ho' : ld false 1 (.ptr 1 (0 + 0)) H7 = some o := by rw [ld_box ho]; rfl
    have hn : nilCheckA (.ptr 1 0) = some (.ptr 1 0) := rfl
    obtain ⟨nl, tg, H8, e8⟩ := hL.leave1 []
    refine ⟨nl, tg, H8, ?_⟩
    simp only [hld _ hV, obs, fldA_ptr, Nat.zero_add, ldP hS (off := 0) rfl, c1, hld _ v1, ldP s1 (off := 1) rfl, c2, hld _ v2, ldP s2 (off := 2) rfl, c3, hld _ v3, ldP s3 (off := 3) rfl, c4, hld _ v4, ldP s4 (off := 4) rfl, c5, hld _ v5, ldP s5 (off := 5) rfl, c6, hld _ v6, ldP s6 (off := 6) rfl, ldP s6 (off := 7) rfl, hlit, c7, hld _ v7, hn, ho']
    rw [e8]
    simp only [flat, fcs, fshs, ftxs, fths, fes, List.nil_append, List.append_assoc]
  obtain ⟨nl, tg, H', e⟩ := key
  refine ⟨nl, tg, callA_args (rs := [_]) rfl ?_ e rfl⟩
  have hl : ∀ xs : List PV, pureLeaves H (xs.map .p) = some (xs.map .p, false) := by
    intro xs
    induction xs with
    | nil => rfl
    | cons x xs ih => simp [pureLeaves, pureLeaf, ih]
  simp [pureArgs, pureArg, hl]

end Flat
end Go.Proofs.Ytangmjeafnkfaaa
