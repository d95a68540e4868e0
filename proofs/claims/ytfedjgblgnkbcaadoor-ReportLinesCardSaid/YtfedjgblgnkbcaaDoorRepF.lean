import Derived.Test.YtfedjgblgnkbcaaDoorRepE
namespace Go.Proofs.YtfedjgblgnkbcaaDoor
open Go.RowKit Go.Sort

/-! ### ReportLines -/
set_option maxRecDepth 100000 in
set_option maxHeartbeats 4000000 in
theorem reportLines_any (c m a n d s e z : Int) (hc : inI c) (hm : inI m) (ha : inI a) (hn : inI n) (hd : inI d) (hz : inI z) (w : World) (hw : RpOk w) :
    Calls Tryd.prog 3 #[.agg #[.int .i64 c, .int .i64 m, .int .i64 a, .int .i64 n, .int .i64 d, .int .i64 s], .agg #[.int .i64 e, .int .i64 z]] w fun r w' => r = .returned (.bool true) ∧ Below w.heap.size w w' := by
  obtain ⟨W, hW⟩ : ∃ W, Hid ((w.alloc (.cells #[.int .i64 c, .int .i64 m, .int .i64 a, .int .i64 n, .int .i64 d, .int .i64 s] 23)).alloc (.cells #[.int .i64 e, .int .i64 z] 26) = W) := ⟨_, Lib.hid rfl⟩
  have hB0 : Below w.heap.size w W := by rw [← hW.out]; exact ((Below.refl _ _).alloc (Nat.le_refl _) _).alloc (by simp) _
  have bx0 : Blk W w.heap.size 23 #[.int .i64 c, .int .i64 m, .int .i64 a, .int .i64 n, .int .i64 d, .int .i64 s] := by
    rw [← hW.out]; exact (Blk.new w _ _ _ rfl).alloc _
  have by0 : Blk W (w.heap.size + 1) 26 #[.int .i64 e, .int .i64 z] := by
    rw [← hW.out]; exact Blk.new _ _ _ _ (by simp)
  have k0 := (bx0).cell 0
  have k1 := (bx0).cell 1
  have k2 := (bx0).cell 2
  have k3 := (bx0).cell 3
  have k4 := (bx0).cell 4
  have k5 := (bx0).cell 5
  simp at k0 k1 k2 k3 k4 k5
  have j0 := (by0).cell 0
  have j1 := (by0).cell 1
  simp at j0 j1
  have q0 := cell_regrown k0
  have q1 := cell_regrown k1
  have q2 := cell_regrown k2
  have q3 := cell_regrown k3
  have q4 := cell_regrown k4
  have q5 := cell_regrown k5
  have p0 := cell_regrown j0
  have p1 := cell_regrown j1
  have HW := hw.past hB0
  have RW : ∀ d' os, RpOk (grow (redrawn W d') os) := fun d' os => HW.past (below_regrown W d' os)
  have NA : ∀ d' os, Calls Tryd.prog 4 #[] (grow (redrawn W d') os) fun r w'' => r = .returned (.bool true) ∧ ∃ p : Regrown, w'' = grow (redrawn W p.d) p.os := fun d' os => Calls.regrown_of (awake36 _ (RW d' os))
  have NO : ∀ d' os, Calls Tryd.prog 5 #[.agg #[.int .i64 c, .int .i64 m, .int .i64 a, .int .i64 n, .int .i64 d, .int .i64 s]] (grow (redrawn W d') os) fun r w'' => r = .returned (.string ⟨(owesT c m a n d s).toArray⟩) ∧ ∃ p : Regrown, w'' = grow (redrawn W p.d) p.os := fun d' os => Calls.regrown_of (oblig_any c m a n d s hc hm ha hn hd _ (RW d' os).tab)
  have NP : ∀ d' os, Calls Tryd.prog 6 #[.agg #[.int .i64 c, .int .i64 m, .int .i64 a, .int .i64 n, .int .i64 d, .int .i64 s]] (grow (redrawn W d') os) fun r w'' => r = .returned (.string ⟨(owesT c m a n d s).toArray⟩) ∧ ∃ p : Regrown, w'' = grow (redrawn W p.d) p.os := fun d' os => Calls.regrown_of (refOblig_any c m a n d s hc hm ha hn hd _)
  have NQ : ∀ d' os, Calls Tryd.prog 7 #[.agg #[.int .i64 e, .int .i64 z]] (grow (redrawn W d') os) fun r w'' => r = .returned (.string ⟨(answT e z).toArray⟩) ∧ ∃ p : Regrown, w'' = grow (redrawn W p.d) p.os := fun d' os => Calls.regrown_of (answer_any e z hz _ (RW d' os).tab)
  have NR : ∀ d' os, Calls Tryd.prog 8 #[.agg #[.int .i64 e, .int .i64 z]] (grow (redrawn W d') os) fun r w'' => r = .returned (.string ⟨(answT e z).toArray⟩) ∧ ∃ p : Regrown, w'' = grow (redrawn W p.d) p.os := fun d' os => Calls.regrown_of (refAnswer_any e z hz _)
  obtain ⟨o, ho⟩ : ∃ o, Hid ((⟨(owesT c m a n d s).toArray⟩ : ByteArray) = o) := ⟨_, Lib.hid rfl⟩
  obtain ⟨t, ht⟩ : ∃ t, Hid ((⟨(answT e z).toArray⟩ : ByteArray) = t) := ⟨_, Lib.hid rfl⟩
  rw [ho.out] at NO NP
  rw [ht.out] at NQ NR
  clear k0 k1 k2 k3 k4 k5 j0 j1 bx0 by0 HW RW hw hc hm ha hn hd hz ho ht
  go_enter Tryd.func3, Tryd.ntmps3
  go_upto_region 1 with fail
  rw [hW.out]
  refine wp_region_quiet_below (by kernel_rfl) (by kernel_rfl) ?_
  repeat (quiet_step (first | with_reducible exact NA _ _ | with_reducible exact NO _ _ | with_reducible exact NP _ _ | with_reducible exact NQ _ _ | with_reducible exact NR _ _))
  refine wpQuiet_nil ?_
  intro _ hw'
  obtain ⟨⟨dq, osq⟩, hw''⟩ := hw'
  subst hw''
  have hbv := below_regrown W dq osq
  go_wp2_with fail
  go_ret
  exact ⟨rfl, Below.past hB0 hbv hB0.size⟩
end Go.Proofs.YtfedjgblgnkbcaaDoor
