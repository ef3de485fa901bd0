/- slices.Backward's function calls what it is handed for each place, from the last one down. -/
import Derived.Test.YtfdnamedmjhcfaaCf
import Derived.Test.YtfdnamedmjhcfaaAm38
set_option linter.unusedVariables false
set_option linter.unusedSimpArgs false
set_option maxRecDepth 100000
namespace Go.Proofs.Ytfdnamedmjhcfaa
open Go Go.AM
theorem back45 : BackOk Try.prog 45 true 2 := by
  refine ⟨⟨_, Try.func45, rfl, rfl⟩, 27, 44, by kernel_rfl, by kernel_rfl, by kernel_rfl, by kernel_rfl, by kernel_rfl, by kernel_rfl, ?_⟩
  intro l p J Jx W m hd hr hs h0
  obtain ⟨sl, h1, h2⟩ := hs
  refine callsIn_of_wp (fn := Try.f45) Try.func45 rfl trivial ?_
  obtain ⟨a0, hae, hsz, hdf, hg0, hg1⟩ := act_args (.func (.yield l) #[] #[]) p (n := Try.f45.ntmps) (by rw [Try.ntmps45]; decide)
  rw [Try.ntmps45] at hsz
  rw [← hae]
  clear hae
  have hint : tyOf Try.prog 3 = .int := by kernel_rfl
  refine wpIn_seq (wpIn_region ?_)
  show wpOpsIn (FR none) 0 Try.prog _ _ [0, 1, 2, 3] a0 W
  refine stepV (v := sl) (d := 4) (n := 19) rfl rfl rfl rfl hsz (by decide) (exec_load (x := .tmp 1) (u := p) rfl (hg1) h1) fun a1 n1 f1 e1 k1 => ?_
  refine stepV (v := .int .i64 m) (d := 5) (n := 19) rfl rfl rfl rfl n1 (by decide) (exec_len (x := .tmp 4) (u := sl) rfl rfl rfl rfl (e1) h2) fun a2 n2 f2 e2 k2 => ?_
  refine stepV (v := .int .i64 (IntKind.i64.wrap (m - 1))) (d := 6) (n := 19) rfl rfl rfl rfl n2 (by decide) (exec_bin (x := .tmp 5) (y := .const (.int .i64 1)) (u1 := .int .i64 m) (u2 := .int .i64 1) rfl (e2) rfl rfl rfl (by rw [hint]; rfl)) fun a3 n3 f3 e3 k3 => ?_
  refine stepV (v := .int .i64 (IntKind.i64.wrap (m - 1))) (d := 3) (n := 19) rfl rfl rfl rfl n3 (by decide) (exec_assign (x := .tmp 6) rfl (e3)) fun a4 n4 f4 e4 k4 => ?_
  refine wpIn_block (wpIn_loop (fun a w => ∃ k, J k w ∧ Bk 19 (.func (.yield l) #[] #[]) p k a) (fun a _ => bkMu a) ⟨_, h0, ⟨n4, (f4.trans <| f3.trans <| f2.trans <| f1.trans <| hdf), ((k4 0 (by decide)).trans <| (k3 0 (by decide)).trans <| (k2 0 (by decide)).trans <| (k1 0 (by decide)).trans <| hg0), ((k4 1 (by decide)).trans <| (k3 1 (by decide)).trans <| (k2 1 (by decide)).trans <| (k1 1 (by decide)).trans <| hg1), (e4)⟩⟩ ?_)
  rintro a w ⟨k, hJ, hB⟩
  have hsz := hB.sz
  refine wpIn_seq (wpIn_seq (wpIn_region ?_))
  show wpOpsIn (FR none) 0 Try.prog _ _ [0, 1] a w
  refine stepV (v := .int .i64 k) (d := 7) (n := 19) rfl rfl rfl rfl hsz (by decide) (exec_move (x := .tmp 3) rfl (hB.h3)) fun a5 n5 f5 e5 k5 => ?_
  refine stepV (v := .bool (decide (k ≥ 0))) (d := 8) (n := 19) rfl rfl rfl rfl n5 (by decide) (exec_bin (x := .tmp 7) (y := .const (.int .i64 0)) (u1 := .int .i64 k) (u2 := .int .i64 0) rfl (e5) rfl rfl rfl (by rw [hint]; rfl)) fun a6 n6 f6 e6 k6 => ?_
  by_cases hk : 0 ≤ k
  · refine wpIn_cond_true (by rw [(e6), decide_eq_true hk]) (wpIn_skip ?_)
    obtain ⟨sv, q, v, k1', k2', k3', hy⟩ := hr k w hJ hk
    refine wpIn_seq (wpIn_block (wpIn_seq (wpIn_region ?_)))
    show wpOpsIn (FR none) 0 Try.prog _ _ [0, 1, 2, 3, 4, 5, 6, 7] _ w
    refine stepV (v := .func (.yield l) #[] #[]) (d := 11) (n := 19) rfl rfl rfl rfl n6 (by decide) (exec_move (x := .tmp 0) rfl ((k6 0 (by decide)).trans <| (k5 0 (by decide)).trans <| hB.h0)) fun a7 n7 f7 e7 k7 => ?_
    refine stepV (v := .int .i64 k) (d := 12) (n := 19) rfl rfl rfl rfl n7 (by decide) (exec_move (x := .tmp 3) rfl ((k7 3 (by decide)).trans <| (k6 3 (by decide)).trans <| (k5 3 (by decide)).trans <| hB.h3)) fun a8 n8 f8 e8 k8 => ?_
    refine stepV (v := sv) (d := 13) (n := 19) rfl rfl rfl rfl n8 (by decide) (exec_load (x := .tmp 1) (u := p) rfl ((k8 1 (by decide)).trans <| (k7 1 (by decide)).trans <| (k6 1 (by decide)).trans <| (k5 1 (by decide)).trans <| hB.h1) k1') fun a9 n9 f9 e9 k9 => ?_
    refine stepV (v := .int .i64 k) (d := 14) (n := 19) rfl rfl rfl rfl n9 (by decide) (exec_move (x := .tmp 3) rfl ((k9 3 (by decide)).trans <| (k8 3 (by decide)).trans <| (k7 3 (by decide)).trans <| (k6 3 (by decide)).trans <| (k5 3 (by decide)).trans <| hB.h3)) fun a10 n10 f10 e10 k10 => ?_
    refine stepV (v := q) (d := 15) (n := 19) rfl rfl rfl rfl n10 (by decide) (exec_index (x := .tmp 13) (y := .tmp 14) (u1 := sv) (u2 := .int .i64 k) rfl ((k10 13 (by decide)).trans <| e9) (e10) k2') fun a11 n11 f11 e11 k11 => ?_
    refine stepV (v := v) (d := 16) (n := 19) rfl rfl rfl rfl n11 (by decide) (exec_load (x := .tmp 15) (u := q) rfl (e11) k3') fun a12 n12 f12 e12 k12 => ?_
    refine stepY (d := 17) (n := 19) (f := .tmp 11) (args := #[.int .i64 k, v]) rfl rfl rfl rfl rfl n12 (by decide) ((k12 11 (by decide)).trans <| (k11 11 (by decide)).trans <| (k10 11 (by decide)).trans <| (k9 11 (by decide)).trans <| (k8 11 (by decide)).trans <| e7) (map_two (x := .tmp 12) (y := .tmp 16) ((k12 12 (by decide)).trans <| (k11 12 (by decide)).trans <| (k10 12 (by decide)).trans <| (k9 12 (by decide)).trans <| e8) (e12)) hy ?_
    rintro e W3 (⟨rfl, hJ3⟩ | ⟨rfl, hJx⟩)
    · refine ⟨_, rfl, fun a13 n13 f13 e13 k13 => ?_⟩
      refine stepV (v := .bool (!true)) (d := 18) (n := 19) rfl rfl rfl rfl n13 (by decide) (exec_not (x := .tmp 17) rfl (e13)) fun a14 n14 f14 e14 k14 => ?_
      refine wpIn_cond_false (by rw [(e14)]; rfl) (wpIn_skip (wpIn_region ?_))
      show wpOpsIn (FR none) 0 Try.prog _ _ [0, 1, 2] _ W3
      refine stepV (v := .int .i64 k) (d := 9) (n := 19) rfl rfl rfl rfl n14 (by decide) (exec_move (x := .tmp 3) rfl ((k14 3 (by decide)).trans <| (k13 3 (by decide)).trans <| (k12 3 (by decide)).trans <| (k11 3 (by decide)).trans <| (k10 3 (by decide)).trans <| (k9 3 (by decide)).trans <| (k8 3 (by decide)).trans <| (k7 3 (by decide)).trans <| (k6 3 (by decide)).trans <| (k5 3 (by decide)).trans <| hB.h3)) fun a15 n15 f15 e15 k15 => ?_
      refine stepV (v := .int .i64 (IntKind.i64.wrap (k - 1))) (d := 10) (n := 19) rfl rfl rfl rfl n15 (by decide) (exec_bin (x := .tmp 9) (y := .const (.int .i64 1)) (u1 := .int .i64 k) (u2 := .int .i64 1) rfl (e15) rfl rfl rfl (by rw [hint]; rfl)) fun a16 n16 f16 e16 k16 => ?_
      refine stepV (v := .int .i64 (IntKind.i64.wrap (k - 1))) (d := 3) (n := 19) rfl rfl rfl rfl n16 (by decide) (exec_assign (x := .tmp 10) rfl (e16)) fun a17 n17 f17 e17 k17 => ?_
      refine ⟨⟨_, hJ3, ⟨n17, (f17.trans <| f16.trans <| f15.trans <| f14.trans <| f13.trans <| f12.trans <| f11.trans <| f10.trans <| f9.trans <| f8.trans <| f7.trans <| f6.trans <| f5.trans <| hB.df), ((k17 0 (by decide)).trans <| (k16 0 (by decide)).trans <| (k15 0 (by decide)).trans <| (k14 0 (by decide)).trans <| (k13 0 (by decide)).trans <| (k12 0 (by decide)).trans <| (k11 0 (by decide)).trans <| (k10 0 (by decide)).trans <| (k9 0 (by decide)).trans <| (k8 0 (by decide)).trans <| (k7 0 (by decide)).trans <| (k6 0 (by decide)).trans <| (k5 0 (by decide)).trans <| hB.h0), ((k17 1 (by decide)).trans <| (k16 1 (by decide)).trans <| (k15 1 (by decide)).trans <| (k14 1 (by decide)).trans <| (k13 1 (by decide)).trans <| (k12 1 (by decide)).trans <| (k11 1 (by decide)).trans <| (k10 1 (by decide)).trans <| (k9 1 (by decide)).trans <| (k8 1 (by decide)).trans <| (k7 1 (by decide)).trans <| (k6 1 (by decide)).trans <| (k5 1 (by decide)).trans <| hB.h1), (e17)⟩⟩, ?_⟩
      rw [bkMu_eq (e17), bkMu_eq hB.h3]
      have := wrap_down hk
      omega
    · refine ⟨_, rfl, fun a13 n13 f13 e13 k13 => ?_⟩
      refine stepV (v := .bool (!false)) (d := 18) (n := 19) rfl rfl rfl rfl n13 (by decide) (exec_not (x := .tmp 17) rfl (e13)) fun a18 n18 f18 e18 k18 => ?_
      refine wpIn_cond_true (by rw [(e18)]; rfl) (wpIn_ret ?_)
      exact ⟨(f18.trans <| f13.trans <| f12.trans <| f11.trans <| f10.trans <| f9.trans <| f8.trans <| f7.trans <| f6.trans <| f5.trans <| hB.df), _, results_no rfl, ⟨_, rfl⟩, .inr hJx⟩
  · refine wpIn_cond_false (by rw [(e6), decide_eq_false hk]) (wpIn_exit ?_)
    exact ⟨(f6.trans <| f5.trans <| hB.df), _, results_no rfl, ⟨_, rfl⟩, .inl ⟨k, by omega, hJ⟩⟩
theorem rngOk : RngOk Try.prog cfg := by
  intro f k gf agg sz h
  have h : (AM.look f rngs).bind (AM.look k) = some (gf, agg, sz) := h
  obtain ⟨l, h1, h2⟩ := Option.bind_eq_some_iff.mp h
  have m1 := look_mem h1
  have key : ∀ q ∈ rngs, ∀ p ∈ q.2, p.2 = (45, true, 2) := by decide
  have := key _ m1 _ (look_mem h2)
  simp only [Prod.mk.injEq] at this
  rcases this with ⟨rfl, rfl, rfl⟩
  · exact back45
end Go.Proofs.Ytfdnamedmjhcfaa
