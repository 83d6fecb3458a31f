/- Texts of the proof, put together: CXh. -/
import Derived.Test.YtejcmkefemhpkaaGi

/- Contracts: ClockKnown. -/
set_option linter.unusedSimpArgs false
set_option linter.unusedVariables false
set_option maxRecDepth 100000
namespace Go.Ck
open Go Go.Pl
def k1 : Ck := ⟨5, 5, [⟨2, 10, 2, 0⟩, ⟨1, 20, 1, 0⟩, ⟨3, 20, 3, 0⟩], []⟩
def k2 : Ck := ⟨5, 6, [⟨2, 10, 2, 0⟩, ⟨1, 20, 1, 0⟩, ⟨3, 20, 3, 0⟩], [⟨5, 0, 15, 0⟩]⟩
def k3 : Ck := ⟨5, 7, [⟨2, 10, 2, 0⟩, ⟨1, 20, 1, 0⟩, ⟨3, 20, 3, 0⟩], [⟨5, 0, 15, 0⟩, ⟨6, 5, 15, 0⟩]⟩
def k4 : Ck := ⟨5, 8, [⟨2, 10, 2, 0⟩, ⟨1, 20, 1, 0⟩, ⟨3, 20, 3, 0⟩], [⟨5, 0, 15, 0⟩, ⟨6, 5, 15, 0⟩, ⟨7, 5, 8, 0⟩]⟩
def k5 : Ck := ⟨14, 8, [⟨1, 20, 1, 0⟩, ⟨3, 20, 3, 0⟩], [⟨5, 0, 15, 0⟩, ⟨6, 5, 15, 0⟩, ⟨7, 5, 8, 2⟩]⟩
def k6 : Ck := ⟨14, 8, [⟨1, 20, 1, 0⟩, ⟨3, 20, 3, 0⟩], [⟨5, 0, 15, 1⟩, ⟨6, 5, 15, 1⟩, ⟨7, 5, 8, 2⟩]⟩
def k7 : Ck := ⟨14, 8, [⟨1, 20, 1, 0⟩, ⟨3, 20, 3, 0⟩], [⟨5, 0, 15, 1⟩, ⟨7, 5, 8, 2⟩]⟩
def k8 : Ck := ⟨25, 8, [], [⟨5, 0, 15, 1⟩, ⟨7, 5, 8, 2⟩]⟩
theorem kk1 : Chk k1 0 := (okB_ok (by decide +kernel)).chk
theorem kk2 : Chk k2 0 := (okB_ok (by decide +kernel)).chk
theorem kk3 : Chk k3 0 := (okB_ok (by decide +kernel)).chk
theorem kk4 : Chk k4 0 := (okB_ok (by decide +kernel)).chk
theorem kk5 : Chk k5 0 := (okB_ok (by decide +kernel)).chk
theorem kk6 : Chk k6 0 := (okB_ok (by decide +kernel)).chk
theorem kk7 : Chk k7 0 := (okB_ok (by decide +kernel)).chk
theorem kk8 : Chk k8 0 := (okB_ok (by decide +kernel)).chk
theorem w1 : tikR s4 0 5 = .tup [ckV k1, .sl 4 [tmV ⟨4, 3, 4, 0⟩], .sl 1 [], .int .i64 0] := by rfl
theorem w2 : scpR k1 0 0 15 = .tup [ckV k2, .int .i64 5, .int .i64 0] := by rfl
theorem w3 : scpR k2 0 5 1000000000001 = .tup [ckV k3, .int .i64 6, .int .i64 0] := by rfl
theorem w4 : scpR k3 0 5 8 = .tup [ckV k4, .int .i64 7, .int .i64 0] := by rfl
theorem w5 : leftR k4 0 6 = .tup [.int .i64 10, .int .i64 0] := by rfl
theorem w6 : tikR k4 0 14 = .tup [ckV k5, .sl 4 [tmV ⟨2, 10, 2, 0⟩], .sl 1 [.int .i64 7], .int .i64 0] := by rfl
theorem w7 : canR k5 0 5 = .tup [ckV k6, .sl 1 [.int .i64 5, .int .i64 6], .int .i64 0] := by rfl
theorem w8 : whyR k6 0 6 = .tup [.int .i64 1, .int .i64 0] := by rfl
theorem w9 : whyR k6 0 7 = .tup [.int .i64 2, .int .i64 0] := by rfl
theorem wa : canR k6 0 6 = .tup [ckV k6, .sl 1 [], .int .i64 9] := by rfl
theorem wb : forR k6 0 5 = .tup [ckV k6, .int .i64 9] := by rfl
theorem wc : forR k6 0 6 = .tup [ckV k7, .int .i64 0] := by rfl
theorem wd : tikR k7 0 25 = .tup [ckV k8, .sl 4 [tmV ⟨1, 20, 1, 0⟩, tmV ⟨3, 20, 3, 0⟩], .sl 1 [], .int .i64 0] := by rfl
theorem we : tikR k8 0 24 = .tup [ckV k8, .sl 4 [], .sl 1 [], .int .i64 7] := by rfl
end Go.Ck
namespace Go.Proofs
open Go Go.Pl Go.Ck
set_option maxHeartbeats 2000000 in
theorem Try.clockKnown_c (bx : Boxes) : PureCall Try.prog 6 [] bx (.bool true) := by
  refine PureCall.wk (Try.ctr6 fun hf => ?_)
  have cF := Try.five_c bx
  have c1 := fun bx => Try.Tick_c s4 0 ok4 5 bx
  have c2 := fun bx => Try.Scope_c k1 0 kk1 0 15 bx
  have c3 := fun bx => Try.Scope_c k2 0 kk2 5 1000000000001 bx
  have c4 := fun bx => Try.Scope_c k3 0 kk3 5 8 bx
  have c5 := fun bx => Try.Left_c k4 0 6 kk4 bx
  have c6 := fun bx => Try.Tick_c k4 0 kk4 14 bx
  have c7 := fun bx => Try.Cancel_c k5 0 kk5 5 bx
  have c8 := fun bx => Try.Why_c k6 0 6 kk6 bx
  have c9 := fun bx => Try.Why_c k6 0 7 kk6 bx
  have ca := fun bx => Try.Cancel_c k6 0 kk6 6 bx
  have cb := fun bx => Try.Forget_c k6 0 kk6 5 bx
  have cc := fun bx => Try.Forget_c k6 0 kk6 6 bx
  have cd := fun bx => Try.Tick_c k7 0 kk7 25 bx
  have ce := fun bx => Try.Tick_c k8 0 kk8 24 bx
  have n1 := fun bx => Try.sameN_c [7] [7] (by decide) bx
  have n2 := fun bx => Try.sameN_c [5, 6] [5, 6] (by decide) bx
  simp only [w1, w2, w3, w4, w5, w6, w7, w8, w9, wa, wb, wc, wd, we] at c1 c2 c3 c4 c5 c6 c7 c8 c9 ca cb cc cd ce
  simp only [decide_true, List.map_cons, List.map_nil] at n1 n2
  simp only [ckV, tmV] at cF c1 c2 c3 c4 c5 c6 c7 c8 c9 ca cb cc cd ce
  simp [go_sem, Try.C6, hf]
  refine callK_pure cF ?_
  simp [go_sem, hf]
  intro b1 hb1
  have hx := fun x => (Ext.refl bx).upd_own hb1 x
  refine callK_pure (c1 _) ?_
  simp [go_sem, hf, upd_eq, upd_upd]
  refine callK_pure (c2 _) ?_
  simp [go_sem, hf, upd_eq, upd_upd]
  refine callK_pure (c3 _) ?_
  simp [go_sem, hf, upd_eq, upd_upd]
  refine callK_pure (c4 _) ?_
  simp [go_sem, hf, upd_eq, upd_upd]
  refine callK_pure (c5 _) ?_
  simp [go_sem, hf, upd_eq, upd_upd]
  refine callK_pure (c6 _) ?_
  simp [go_sem, hf, upd_eq, upd_upd]
  refine gK_pure (n1 _) (by simp) (by simp [go_sem]) ?_
  simp [go_sem, hf, upd_eq, upd_upd]
  refine callK_pure (c7 _) ?_
  simp [go_sem, hf, upd_eq, upd_upd]
  refine callK_pure (c8 _) ?_
  simp [go_sem, hf, upd_eq, upd_upd]
  refine callK_pure (c9 _) ?_
  simp [go_sem, hf, upd_eq, upd_upd]
  refine callK_pure (ca _) ?_
  simp [go_sem, hf, upd_eq, upd_upd]
  refine callK_pure (cb _) ?_
  simp [go_sem, hf, upd_eq, upd_upd]
  refine callK_pure (cc _) ?_
  simp [go_sem, hf, upd_eq, upd_upd]
  refine gK_pure (n2 _) (by simp) (by simp [go_sem]) ?_
  simp [go_sem, hf, upd_eq, upd_upd]
  refine callK_pure (cd _) ?_
  simp [go_sem, hf, upd_eq, upd_upd]
  refine callK_pure (ce _) ?_
  simp [go_sem, hf, upd_eq, upd_upd]
  refine gK_pure (Try.awake_c _) (by simp) (by simp [go_sem]) ?_
  simp [go_sem, hf, upd_eq, upd_upd]
  exact ret_drop (by simp [go_sem]) (hx _) ⟨by simp [go_sem]; exact Wk.refl _, rfl⟩
end Go.Proofs
