/- Texts of the proof, put together: FP, FQ, FR. -/
import Derived.Test.YtkjhfnlnbjmahaaGreatDoorGk
import Derived.Test.YtkjhfnlnbjmahaaGreatDoorGl
import Derived.Test.YtkjhfnlnbjmahaaGreatDoorGe
import Derived.Test.YtkjhfnlnbjmahaaGreatDoorGd
import Derived.Shelf.Slices.In.SortNone
import Derived.Sort.KeysCollected
import Derived.Sort.Walk0

set_option linter.unusedSimpArgs false
set_option linter.unusedVariables false
set_option maxRecDepth 100000
namespace Go.Proofs
open Go Go.Pl Go.RowKit Go.Shelf
def Tryz.laySort_ren : Ren := { f := fun x => match x with | 190 => 81 | 125 => 115 | 258 => 114 | 128 => 145 | 129 => 146 | 302 => 136 | 303 => 137 | 304 => 138 | 305 => 139 | 306 => 140 | 307 => 141 | 308 => 142 | 309 => 143 | 310 => 144 | 333 => 163 | 329 => 164 | 330 => 165 | 334 => 166 | 335 => 167 | 336 => 168 | 344 => 176 | n => n, t := fun x => match x with | 31 => 25 | 9 => 9 | 3 => 3 | 46 => 129 | 0 => 0 | 51 => 152 | 53 => 154 | 4 => 4 | 183 => 145 | 182 => 144 | 131 => 149 | 5 => 5 | 218 => 166 | 222 => 170 | 228 => 181 | 229 => 182 | n => n, g := fun x => x }
theorem Tryz.laySort : Lays.n190 Tryz.prog Tryz.laySort_ren where
 mixed := by kernel_rfl
 f125 := Tryz.func115.trans (congrArg some (by kernel_rfl))
 f128 := Tryz.func145.trans (congrArg some (by kernel_rfl))
 f129 := Tryz.func146.trans (congrArg some (by kernel_rfl))
 f190 := Tryz.func81.trans (congrArg some (by kernel_rfl))
 f258 := Tryz.func114.trans (congrArg some (by kernel_rfl))
 f302 := Tryz.func136.trans (congrArg some (by kernel_rfl))
 f303 := Tryz.func137.trans (congrArg some (by kernel_rfl))
 f304 := Tryz.func138.trans (congrArg some (by kernel_rfl))
 f305 := Tryz.func139.trans (congrArg some (by kernel_rfl))
 f306 := Tryz.func140.trans (congrArg some (by kernel_rfl))
 f307 := Tryz.func141.trans (congrArg some (by kernel_rfl))
 f308 := Tryz.func142.trans (congrArg some (by kernel_rfl))
 f309 := Tryz.func143.trans (congrArg some (by kernel_rfl))
 f310 := Tryz.func144.trans (congrArg some (by kernel_rfl))
 f329 := Tryz.func164.trans (congrArg some (by kernel_rfl))
 f330 := Tryz.func165.trans (congrArg some (by kernel_rfl))
 f333 := Tryz.func163.trans (congrArg some (by kernel_rfl))
 f334 := Tryz.func166.trans (congrArg some (by kernel_rfl))
 f335 := Tryz.func167.trans (congrArg some (by kernel_rfl))
 f336 := Tryz.func168.trans (congrArg some (by kernel_rfl))
 f344 := Tryz.func176.trans (congrArg some (by kernel_rfl))
 t0 := Tryz.underlying0
 a0 := Tryz.isAgg0
 z0 := Tryz.sizeOf0
 v0 := Tryz.zeroValue0
 t3 := Tryz.underlying3
 a3 := Tryz.isAgg3
 z3 := Tryz.sizeOf3
 v3 := Tryz.zeroValue3
 t4 := Tryz.underlying4
 a4 := Tryz.isAgg4
 z4 := Tryz.sizeOf4
 v4 := Tryz.zeroValue4
 t5 := Tryz.underlying5
 a5 := Tryz.isAgg5
 z5 := Tryz.sizeOf5
 v5 := Tryz.zeroValue5
 t9 := Tryz.underlying9
 a9 := Tryz.isAgg9
 z9 := Tryz.sizeOf9
 v9 := Tryz.zeroValue9
 t31 := Tryz.underlying25
 a31 := Tryz.isAgg25
 z31 := Tryz.sizeOf25
 v31 := Tryz.zeroValue25
 t46 := Tryz.underlying129
 a46 := Tryz.isAgg129
 z46 := Tryz.sizeOf129
 v46 := Tryz.zeroValue129
 t51 := Tryz.underlying152
 a51 := Tryz.isAgg152
 z51 := Tryz.sizeOf152
 v51 := Tryz.zeroValue152
 t53 := Tryz.underlying154
 a53 := Tryz.isAgg154
 z53 := Tryz.sizeOf154
 v53 := Tryz.zeroValue154
 t131 := Tryz.underlying149
 a131 := Tryz.isAgg149
 z131 := Tryz.sizeOf149
 v131 := Tryz.zeroValue149
 t182 := Tryz.underlying144
 a182 := Tryz.isAgg144
 z182 := Tryz.sizeOf144
 v182 := Tryz.zeroValue144
 t183 := Tryz.underlying145
 a183 := Tryz.isAgg145
 z183 := Tryz.sizeOf145
 v183 := Tryz.zeroValue145
 t218 := Tryz.underlying166
 a218 := Tryz.isAgg166
 z218 := Tryz.sizeOf166
 v218 := Tryz.zeroValue166
 t222 := Tryz.underlying170
 a222 := Tryz.isAgg170
 z222 := Tryz.sizeOf170
 v222 := Tryz.zeroValue170
 t228 := Tryz.underlying181
 a228 := Tryz.isAgg181
 z228 := Tryz.sizeOf181
 v228 := Tryz.zeroValue181
 t229 := Tryz.underlying182
 a229 := Tryz.isAgg182
 z229 := Tryz.sizeOf182
 v229 := Tryz.zeroValue182
theorem ov_upd2 {bx0 : Boxes} {c d : Nat} {x y : Box} : ov bx0 (upd (upd (fun _ => none) c (some x)) d (some y)) = upd (upd bx0 c (some x)) d (some y) := by
 funext e
 by_cases h : e = d
 · subst h; rw [upd_eq, ov_some (by rw [upd_eq]; simp), upd_eq]
 · rw [upd_ne _ _ h]
   by_cases h2 : e = c
   · subst h2; rw [upd_eq, ov_some (by rw [upd_ne _ _ h, upd_eq]; simp), upd_ne _ _ h, upd_eq]
   · rw [upd_ne _ _ h2, ov_none (by rw [upd_ne _ _ h, upd_ne _ _ h2])]
theorem Tryz.keys1_c {K : List (List UInt8)} {bm b : Nat} {bx : Boxes} (hbm : bx bm = some (.map (K.map kvV))) (hb : bx b = none) (x : Box) (J : List Nat → Boxes → Prop)
   (hfj : ∀ is bx, J is bx → FinB bx)
   (hy : ∀ is i bx, is.length < K.length → (hi : i < K.length) → J is bx → AbsYield Tryz.prog b [.str K[i]] bx fun r bx' => r = .bool true ∧ J (is ++ [i]) bx')
   (h0 : J [] (upd (upd bx bm none) b (some x))) :
   AbsCall Tryz.prog 82 [.yl b, .ep (.mp bm) 0] (upd bx b (some x)) fun _ bx' => ∃ is bx0, is.Perm (List.range K.length) ∧ J is bx0 ∧ bx0 bm = none ∧ bx' = upd bx0 bm (some (.map (K.map kvV))) := by
 refine Tryz.ctr82 fun hf => ?_
 have nb : bm ≠ b := fun e => by rw [e, hb] at hbm; cases hbm
 have hbm' : upd bx b (some x) bm = some (.map (K.map kvV)) := by rw [upd_ne _ _ nb, hbm]
 simp [go_sem, Tryz.C82, hf, hbm']
 intro bs c b' hl hnd hlt hb'
 have hl' : bs.length = K.length := by simpa using hl
 have nb' : b' ≠ bm := (new_ne hb').1
 have hb'2 : upd bx b (some x) b' = none := (new_ne hb').2
 have nbb' : b' ≠ b := (new_ne hb'2).1
 have hbb : bx b' = none := (new_ne hb'2).2
 have hfJ0 := hfj _ _ h0
 have hB : upd (upd (upd bx b (some x)) bm (some (Box.mapS (K.map kvV) bs c))) b' (some (Box.iter bm c c [])) = upd (upd (upd (upd bx bm none) b (some x)) bm (some (Box.mapS (K.map kvV) bs c))) b' (some (Box.iter bm c c [])) := by
   congr 1
   funext d
   by_cases h1 : d = bm
   · subst h1; rw [upd_eq, upd_eq]
   · rw [upd_ne _ _ h1, upd_ne _ _ h1]
     by_cases h2 : d = b
     · subst h2; rw [upd_eq, upd_eq]
     · rw [upd_ne _ _ h2, upd_ne _ _ h2, upd_ne _ _ h1]
 rw [hB]
 refine pw_loop (ι := List Nat × List Nat × Boxes) (fun q => Seen K.length bs q.1 q.2.1 ∧ J q.1 q.2.2 ∧ q.2.2 b' = none ∧ q.2.2 bm = none) (fun q => ⟨14, slk [(0, .yl b), (5, .ptr b' 1 0 0)], upd (upd q.2.2 bm (some (.mapS (K.map kvV) bs c))) b' (some (.iter bm c c q.2.1))⟩) (fun q => K.length - q.1.length) ([], [], upd (upd bx bm none) b (some x)) ⟨Seen.nil _ _, h0, ?_, ?_⟩ (cov_look (by simp [go_sem])) ?_
 · show upd (upd bx bm none) b (some x) b' = none
   rw [upd_ne _ _ nbb', upd_ne _ _ nb', hbb]
 · show upd (upd bx bm none) b (some x) bm = none
   rw [upd_ne _ _ nb, upd_eq]
 rintro ⟨is, seen, bx0⟩ ⟨hS, hJ, hn0, hm0⟩
 dsimp only at hS hJ hn0 hm0 ⊢
 have hf0 := hfj _ _ hJ
 have hi1 : upd (upd bx0 bm (some (Box.mapS (K.map kvV) bs c))) b' (some (Box.iter bm c c seen)) b' = some (Box.iter bm c c seen) := upd_eq _ _ _
 have hi2 : upd (upd bx0 bm (some (Box.mapS (K.map kvV) bs c))) b' (some (Box.iter bm c c seen)) bm = some (Box.mapS (K.map kvV) bs c) := by rw [upd_ne _ _ (Ne.symm nb'), upd_eq]
 simp [go_sem, Tryz.L82_0, hi1, hi2]
 refine ⟨hlt, fun hall => ?_, ?_⟩
 · refine ret_sub (bx' := upd bx0 bm (some (.map (K.map kvV)))) (by simp) (sub_unS hi2 (upd_eq _ _ _) fun d hd => ?_) ⟨is, hS.all hl' hnd hall, bx0, hJ, hm0, rfl⟩
   by_cases e : d = b'
   · subst e; exact .inl (by rw [upd_ne _ _ nb', hn0])
   · exact .inr (by rw [upd_ne _ _ hd]; simp [upd_ne _ _ e, upd_ne _ _ hd])
 · intro i q a v hq s hKi hkv hns
   obtain ⟨g1, g2, g3⟩ := hS.next hl' hq hns
   have hks : K[i] = s := (List.getElem?_eq_some_iff.1 hKi).2
   have ha : a = .str s ∧ v = .bool true := by unfold kvV at hkv; injection hkv with h1 h2; exact ⟨h1.symm, h2.symm⟩
   obtain ⟨rfl, rfl⟩ := ha
   rw [upd_ne _ _ (Ne.symm nb'), upd_eq]
   refine ⟨rfl, i, .str s, .bool true, seen, q, ⟨rfl, rfl⟩, hq, by simp [hKi, kvV], rfl, ?_⟩
   have hY := (hy is i bx0 (by have := g3.len; simp at this; omega) g2 hJ).frame (bxi := upd (upd (fun _ => none) bm (some (Box.mapS (K.map kvV) bs c))) b' (some (Box.iter bm c c (seen ++ [q])))) ⟨fun d hd => ?_, fun d box hd => ?_⟩
   · rw [ov_upd2, hks] at hY
     refine yldK_abs hY ?_
     rintro r bx2 ⟨bx3, ⟨rfl, hJ3⟩, hdj, rfl⟩
     have h3 := hdj.dj b' (by rw [upd_eq]; simp)
     have h4 := hdj.dj bm (by rw [upd_ne _ _ (Ne.symm nb'), upd_eq]; simp)
     rw [ov_upd2]
     simp [go_sem]
     exact ⟨(is ++ [i], seen ++ [q], bx3), ⟨g3, hJ3, h3, h4⟩, cov_look (by simp [go_sem]), by have := g3.len; simp at this ⊢; omega⟩
   · by_cases e : d = b'
     · subst e; exact hn0
     · rw [upd_ne _ _ e] at hd
       by_cases e2 : d = bm
       · subst e2; exact hm0
       · rw [upd_ne _ _ e2] at hd; exact absurd rfl hd
   · by_cases e : d = b'
     · subst e; rw [upd_eq] at hd; injection hd with hd; subst hd; exact id
     · rw [upd_ne _ _ e] at hd
       by_cases e2 : d = bm
       · subst e2; rw [upd_eq] at hd; injection hd with hd; subst hd; exact id
       · rw [upd_ne _ _ e2] at hd; cases hd
theorem acc_map {bx bx' : Boxes} {bm b : Nat} {y m : Box} {e sz : Nat} {es : List V} {v : V} (hbm : bx bm = some m) (hne : b ≠ bm) (h : Acc (upd (upd bx bm none) b (some y)) e sz es v bx') (hm : bx' bm = none) : Acc (upd bx b (some y)) e sz es v (upd bx' bm (some m)) := by
 refine ⟨fun d hd => ?_, by simp [finB_upd, h.fin], ?_⟩
 · by_cases h1 : d = bm
   · subst h1; rw [upd_eq, upd_ne _ _ (Ne.symm hne), hbm]
   · rw [upd_ne _ _ h1, h.ext d (by
       by_cases h2 : d = b
       · subst h2; rw [upd_eq]; simp
       · rw [upd_ne _ _ h2] at hd; rw [upd_ne _ _ h2, upd_ne _ _ h1]; exact hd)]
     by_cases h2 : d = b
     · subst h2; rw [upd_eq, upd_eq]
     · rw [upd_ne _ _ h2, upd_ne _ _ h2, upd_ne _ _ h1]
 · rcases h.is with h1 | ⟨c, h1, h2, h3⟩
   · exact .inl h1
   · have hc : c ≠ bm := by rintro rfl; rw [hm] at h3; cases h3
     refine .inr ⟨c, ?_, h2, by rw [upd_ne _ _ hc]; exact h3⟩
     by_cases h4 : c = b
     · subst h4; rw [upd_eq] at h1; cases h1
     · rw [upd_ne _ _ h4] at h1 ⊢
       rw [upd_ne _ _ hc] at h1; exact h1
theorem perm_at {K : List (List UInt8)} {is : List Nat} (h : is.Perm (List.range K.length)) : (is.map fun i => K.getD i []).Perm K := by
 have h1 := h.map (fun i => K.getD i [])
 have h2 : (List.range K.length).map (fun i => K.getD i []) = K := by
   apply List.ext_getElem (by simp)
   intro i h1 h2
   simp [h2]
 rw [h2] at h1
 exact h1
set_option maxHeartbeats 1000000 in
theorem Tryz.appendSeq_c {K : List (List UInt8)} (hK : K.length ≤ 100000) {bm : Nat} {bx : Boxes} (hbm : bx bm = some (.map (K.map kvV))) :
   AbsCall Tryz.prog 113 [.nils, .fn (.func 82) [.ep (.mp bm) 0]] bx fun r bx' => ∃ ss : List (List UInt8), ss.Perm K ∧ Acc bx 9 1 (ss.map .str) r bx' := by
 refine Tryz.ctr113 fun hf => ?_
 simp [go_sem, Tryz.C113, hf]
 intro b2 hb2
 have nb2 : b2 ≠ bm := fun e => by rw [e, hbm] at hb2; cases hb2
 refine pw_range (by simp [go_sem]; exact ⟨rfl, rfl⟩) fun b hb => ?_
 obtain ⟨nbb2, hbb⟩ := new_ne hb
 have nbm : b ≠ bm := fun e => by rw [e, hbm] at hbb; cases hbb
 generalize hLP : Box.loop none #[7] (goodC Tryz.L113_0a Tryz.L113_0b) 13 (slk [(2, V.ptr b2 1 0 0), (4, V.nils), (6, V.fn (Fn.func 82) [(V.mp bm).ep 0])]) = LP
 refine (Tryz.keys1_c (bx := upd bx b2 (some (.row 25 1 [.nils]))) (K := K) (bm := bm) (by rw [upd_ne _ _ (Ne.symm nb2)]; exact hbm) hb LP (fun is bx' => ∃ bx0 v, bx0 b = none ∧ bx' = upd bx0 b (some LP) ∧ Acc (upd (upd bx bm none) b2 (some (.row 25 1 [v]))) 9 1 ((is.map fun i => K.getD i []).map .str) v bx0) ?_ ?_ ?_).mono ?_
 · rintro is _ ⟨bx0, v, h1, rfl, h3⟩
   simp [finB_upd, h3.fin]
 · rintro is i _ hlen hi ⟨bx0, v, h1, rfl, h3⟩
   refine abs_round (by kernel_rfl) (by rw [← hLP]) h1 (by simp) (by simp) (by rfl) (by rfl) fun Q q1 _ _ => ?_
   have hg : K.getD i [] = K[i] := by simp [hi]
   simp [go_sem, Tryz.L113_0a, setPs, upd_look]
   simp [go_sem, Tryz.L113_0b, h3.cells, h3.fin, h3.at]
   intro b' hb'
   refine acc_append (es := (is.map fun i => K.getD i []).map .str) (news := [.str K[i]]) (e := 9) (sz := 1) (.string ⟨#[]⟩) h3 ((Ext.refl _).new hb' _) (by simp [finB_upd, h3.fin]) Tryz.knd25 Tryz.tsz9 (by simp [go_sem, srcEls]) Tryz.tzero9 (by simp [go_sem]) (by omega) (by simp [Tryz.tby9] <;> omega) (by simp <;> omega) (by simp [go_sem]) ?_
   intro v' bx3 ha'
   have e : (is.map fun i => K.getD i []).map V.str ++ [V.str K[i]] = ((is ++ [i]).map fun i => K.getD i []).map .str := by
     rw [List.map_append, List.map_append, List.map_cons, List.map_nil, hg]; rfl
   rw [e] at ha'
   obtain ⟨b4, hb4, rfl, hb5⟩ := ha'.row (by simp)
   simp [go_sem, ha'.at, h3.cells, h3.setC, ha'.fin]
   refine q1 _ fun hsb => ⟨rfl, _, _, hsb, by rw [← hLP], by simpa using ha'.put _⟩
 · exact ⟨upd (upd bx bm none) b2 (some (.row 25 1 [.nils])), .nils, by rw [upd_ne _ _ nbb2, upd_ne _ _ nbm]; exact hbb, by rw [upd_comm nb2], by simpa using acc_nil (by simp [finB_upd, hf]) _ _⟩
 · rintro _ bx' ⟨is, _, hperm, ⟨bx0, v, h1, rfl, h3⟩, h2', rfl⟩
   have h2 : bx0 bm = none := by rw [upd_ne _ _ (Ne.symm nbm)] at h2'; exact h2'
   have h4 := acc_map hbm nb2 h3 h2
   have e1 : upd (upd bx0 b (some LP)) bm (some (.map (K.map kvV))) = upd (upd bx0 bm (some (.map (K.map kvV)))) b (some LP) := upd_comm nbm _ _ _
   have hn : upd bx0 bm (some (.map (K.map kvV))) b = none := by rw [upd_ne _ _ nbm]; exact h1
   refine .inl ⟨by rw [e1, upd_eq], ?_⟩
   rw [e1, upd_upd, upd_self hn]
   generalize upd bx0 bm (some (.map (K.map kvV))) = bx3 at *
   simp [go_sem, h4.at, h4.cells]
   refine ret_pure (by simp [go_sem, h4.okV]) ?_
   simp only [go_sem]
   refine ⟨_, perm_at hperm, h4.base ((Ext.refl _).new hb2 _)⟩
theorem sort_none1 {P : Program} {f : FuncId} {v : V} {bx : Boxes} (hent : ∀ vs w, (callFunc f vs).run P w = .ok (.enter f vs) w) (hv : v = .nils ∨ ∃ b sz o, v = .own b sz o 0)
   (hcon : ∀ (p : Option Addr) (cap : Nat) (w : World), Calls P f #[.slice p 0 cap] w fun e w' => e = .returned (.tuple #[]) ∧ w' = w) : AbsCall P f [v] bx fun r bx' => r = .tup [] ∧ bx' = bx := by
 refine ⟨hent, fun β M w vs hok hgl hvs hrep => ?_⟩
 obtain ⟨u, rfl⟩ : ∃ u, vs = #[u] := by
   rcases vs with ⟨_ | ⟨u, _ | ⟨z, l⟩⟩⟩
   · simp at hvs
   · exact ⟨u, rfl⟩
   · simp at hvs
 have h0 := hrep 0 _ rfl
 simp only [List.getElem?_toArray, Array.getD_eq_getD_getElem?, List.getElem?_cons_zero, Option.getD_some] at h0
 obtain ⟨p, cap, rfl⟩ : ∃ p cap, u = .slice p 0 cap := by
   rcases hv with rfl | ⟨b, sz, o, rfl⟩
   · cases h0; exact ⟨_, _, rfl⟩
   · generalize hn : (0 : Nat) = n at h0
     cases h0 with
     | own0 => exact ⟨_, _, rfl⟩
     | own => subst hn; exact ⟨_, _, rfl⟩
 refine (hcon p cap w).mono ?_
 rintro e w' ⟨rfl, rfl⟩
 exact ⟨_, _, bx, β, rfl, ⟨rfl, rfl⟩, hok, Tr.refl _ _ _, .tup [] #[] rfl (fun i c h => by simp at h)⟩
abbrev sortB (ss : List (List UInt8)) : List (List UInt8) := ss.mergeSort fun x y => decide (x ≤ y)
theorem Tryz.sortS_c {bx0 bx : Boxes} {v : V} {ss : List (List UInt8)} (ha : Acc bx0 9 1 (ss.map .str) v bx) (hl : ss.length ≤ 1000000) :
   AbsCall Tryz.prog 81 [v] bx fun r bx' => r = .tup [] ∧ Acc bx0 9 1 ((sortB ss).map .str) v bx' := by
 have hent : ∀ vs w, (callFunc 81 vs).run Tryz.prog w = .ok (.enter 81 vs) w := enters_of Tryz.func81 (by kernel_rfl) rfl
 by_cases h0 : ss = []
 · subst h0
   refine (sort_none1 hent ?_ (fun p cap w => Any.slices_Sort_string_none Tryz.laySort p cap w)).mono ?_
   · rcases ha.is with ⟨_, rfl⟩ | ⟨b, _, rfl, _⟩
     · exact .inl rfl
     · exact .inr ⟨b, 1, 0, rfl⟩
   · rintro r bx' ⟨rfl, rfl⟩
     exact ⟨rfl, by simpa [sortB] using ha⟩
 · obtain ⟨b, h1, rfl, h2⟩ := ha.row (by simpa using h0)
   rw [List.length_map]
   refine (sortS_abs Tryz.laySort hent h2 h0 (by omega)).mono ?_
   rintro r bx' ⟨rfl, rfl⟩
   exact ⟨rfl, ha.ext.upd_own h1 _, by simp [finB_upd, ha.fin], .inr ⟨b, h1, by simp [sortB], upd_eq _ _ _⟩⟩
theorem Tryz.collect_c {K : List (List UInt8)} (hK : K.length ≤ 100000) {bm : Nat} {bx : Boxes} (hbm : bx bm = some (.map (K.map kvV))) :
   AbsCall Tryz.prog 80 [.fn (.func 82) [.ep (.mp bm) 0]] bx fun r bx' => ∃ ss : List (List UInt8), ss.Perm K ∧ Acc bx 9 1 (ss.map .str) r bx' := by
 refine Tryz.ctr80 fun hf => ?_
 simp [go_sem, Tryz.C80, hf]
 refine callK_abs (Tryz.appendSeq_c hK hbm) ?_
 rintro r bx1 ⟨ss, h1, h2⟩
 simp [go_sem, h2.cells, h2.fin]
 refine ret_pure (by simp [go_sem, h2.okV]) ⟨ss, h1, by simpa [go_sem] using h2⟩
theorem Tryz.Sorted_c {K : List (List UInt8)} (hK : K.length ≤ 100000) {bm : Nat} {bx : Boxes} (hbm : bx bm = some (.map (K.map kvV))) :
   AbsCall Tryz.prog 43 [.fn (.func 82) [.ep (.mp bm) 0]] bx fun r bx' => Acc bx 9 1 ((sortB K).map .str) r bx' := by
 refine Tryz.ctr43 fun hf => ?_
 simp [go_sem, Tryz.C43, hf]
 refine callK_abs (Tryz.collect_c hK hbm) ?_
 rintro r bx1 ⟨ss, h1, h2⟩
 simp [go_sem, h2.cells, h2.fin, h2.strip, h2.live]
 refine callK_abs (Tryz.sortS_c h2 (by have := h1.length_eq; omega)) ?_
 rintro _ bx2 ⟨rfl, h3⟩
 simp [go_sem, h3.cells, h3.fin]
 refine ret_pure (by simp [go_sem, h3.okV]) ?_
 have e : sortB ss = sortB K := mergeSort_of_perm h1
 rw [← e]
 simpa [go_sem] using h3
theorem Tryz.Keys_c (bm : Nat) (bx : Boxes) : PureCall Tryz.prog 44 [.mp bm] bx (.fn (.func 82) [.ep (.mp bm) 0]) := by
 refine Tryz.ctr44 fun hf => ?_
 simp [go_sem, Tryz.C44, hf]
 exact ret_pure (by simp [go_sem]) ⟨by simp [go_sem], rfl⟩
end Go.Proofs

set_option linter.unusedSimpArgs false
set_option linter.unusedVariables false
set_option maxRecDepth 100000
namespace Go.Proofs
open Go Go.Pl Go.RowKit
def metL (l : List Fd) (acc : List (List UInt8)) : List (List UInt8) := insL [] ((l.map fun f => Lib.toLowerA f.1).filter fun n => decide (n ∈ acc))
def hopF (l : List Fd) : List (List UInt8) × Int := if chkL l = 0 then match namesF l with
   | some acc => (sortB (metL l acc), 0)
   | none => ([], 6)
 else ([], chkL l)
def resS (x : List (List UInt8) × Int) : V := .tup [.sl 1 (x.1.map .str), .int .i64 x.2]
theorem metL_snoc (l : List Fd) (acc : List (List UInt8)) {k : Nat} (hk : k < l.length) : metL (l.take (k + 1)) acc = if Lib.toLowerA l[k].1 ∈ acc then insN (metL (l.take k) acc) (Lib.toLowerA l[k].1) else metL (l.take k) acc := by
 unfold metL
 rw [List.take_succ_eq_append_getElem hk, List.map_append, List.filter_append, insL_app]
 by_cases h : Lib.toLowerA l[k].1 ∈ acc
 · rw [if_pos h]; simp [h, insL]
 · rw [if_neg h]; simp [h, insL]
theorem insN_len (L : List (List UInt8)) (s : List UInt8) : (insN L s).length ≤ L.length + 1 := by unfold insN; split <;> simp
theorem metL_len (l : List Fd) (acc : List (List UInt8)) : (metL l acc).length ≤ l.length := by
 have h : ∀ (x L : List (List UInt8)), (insL L x).length ≤ L.length + x.length := by
   intro x
   induction x with
   | nil => intro L; simp [insL]
   | cons s x ih =>
     intro L
     have h1 := ih (insN L s)
     have h2 := insN_len L s
     show (insL (insN L s) x).length ≤ _
     simp; omega
 have h1 := h ((l.map fun f => Lib.toLowerA f.1).filter fun n => decide (n ∈ acc)) []
 have h2 := List.length_filter_le (fun n => decide (n ∈ acc)) (l.map fun f => Lib.toLowerA f.1)
 unfold metL
 simp at h1 h2 ⊢
 omega
set_option maxHeartbeats 2000000 in
theorem Tryz.Hop_c {bx : Boxes} (hm : Mk bx) (l : List Fd) (hl : Small l) : PureCall Tryz.prog 13 [.sl 2 (l.map fdV)] bx (resS (hopF l)) := by
 refine PureCall.wk (Tryz.ctr13 fun hf => ?_)
 simp [go_sem, Tryz.C13, hf]
 refine callK_abs (Tryz.hops_c hm l hl) ?_
 intro r bx1 hH
 unfold HopQ at hH
 by_cases h : chkL l = 0
 · rw [if_pos h] at hH
   have hll := chkL_len h
   cases hn : namesF l with
   | none =>
     rw [hn] at hH
     obtain ⟨rfl, h2, h3⟩ := hH
     simp [go_sem, h3]
     refine ret_drop (by simp [go_sem]) h2 ⟨?_, rfl⟩
     simp [go_sem, resS, hopF, h, hn]
     exact wk_tup2 (wk_nils 1) (Wk.refl _)
   | some acc =>
     rw [hn] at hH
     obtain ⟨b, h1, rfl, h2, h3, h4⟩ := hH
     simp [go_sem, h4]
     intro c hc
     have ncb : c ≠ b := fun e => by rw [e, h2] at hc; cases hc
     have hc2 : bx c = none := h3.none hc
     refine pw_for (ι := Boxes) l.length (fun k q => q c = some (.map ((metL (l.take k) acc).map kvV)) ∧ Ext bx1 q ∧ FinB q) (fun k q => ⟨37, slk [(4, .mp b), (6, .mp c), (19, .sl 2 (l.map fdV)), (20, .int .i64 l.length), (21, .int .i64 k)], q⟩) _ ⟨upd_eq _ _ _, (Ext.refl _).new hc _, by simp [finB_upd, h4]⟩ (cov_look (by simp [go_sem, metL, insL])) (fun k q hk hJ N hN => ?_) (fun q hJ N => ?_)
     · obtain ⟨g1, g2, g3⟩ := hJ
       have hw := wr_succ (k := k) (by omega)
       have hgb : q b = some (.map ((insL [] acc).map kvV)) := by rw [g2 b (by rw [h2]; simp), h2]
       have hsm := hl l[k] (List.getElem_mem hk)
       have hsn := metL_snoc l acc hk
       simp [go_sem, Tryz.L13_0, hk, g3, fdV]
       intro b8 hb8
       simp [upd_none hb8]
       refine callK_pure (Tryz.Fold_p _ l[k].1 hsm.1) ?_
       by_cases hI : Lib.toLowerA l[k].1 ∈ acc
       · rw [if_pos hI] at hsn
         obtain ⟨j, hj1, hj2⟩ := kv_yes (insL [] acc) 0 ((mem_insL _ acc []).2 (.inr hI))
         have hp := kv_put (metL (l.take k) acc) (Lib.toLowerA l[k].1)
         unfold mapPut at hp
         rw [← hsn] at hp
         simp [go_sem, hgb, hj1, g1, g3, hp, hw]
         refine hN _ _ ⟨upd_eq _ _ _, fun y hy => ?_, by simp [finB_upd, g3]⟩ (cov_look (by simp [go_sem, fdV]))
         rw [upd_ne _ _ (by rintro rfl; exact hy hc)]
         exact g2 y hy
       · rw [if_neg hI] at hsn
         have hno : ¬ Lib.toLowerA l[k].1 ∈ insL [] acc := fun e => hI (by simpa [mem_insL] using e)
         simp [go_sem, hgb, kv_no _ 0 hno, g1, g3, hw]
         exact hN _ q ⟨by rw [hsn]; exact g1, g2, g3⟩ (cov_look (by simp [go_sem, fdV]))
     · obtain ⟨g1, g2, g3⟩ := hJ
       rw [List.take_length] at g1
       simp [go_sem, Tryz.L13_0, g3]
       refine callK_pure (Tryz.Keys_c c q) ?_
       simp [go_sem, g3]
       refine callK_abs (Tryz.Sorted_c (by have := metL_len l acc; omega) g1) ?_
       intro v bx3 hA
       simp [go_sem, hA.fin, hA.cells]
       refine ret_frz 2 (by simp [go_sem, hA.okV]) ((h3.trans g2).trans hA.ext) ⟨?_, rfl⟩
       simp [go_sem, resS, hopF, h, hn]
       exact wk_tup2 (acc_frz1 (hA.base (h3.trans g2)) (by decide)) (Wk.refl _)
 · rw [if_neg h] at hH
   obtain ⟨rfl, h2, h3⟩ := hH
   simp [go_sem, h, h3]
   refine ret_drop (by simp [go_sem]) h2 ⟨?_, rfl⟩
   simp [go_sem, resS, hopF, h]
   exact wk_tup2 (wk_nils 1) (Wk.refl _)
end Go.Proofs

set_option linter.unusedSimpArgs false
set_option linter.unusedVariables false
set_option maxRecDepth 100000
namespace Go.Proofs
open Go Go.Pl Go.RowKit
theorem leB_tr : ∀ a b c : List UInt8, decide (a ≤ b) = true → decide (b ≤ c) = true → decide (a ≤ c) = true := fun a b c h1 h2 => by simp only [decide_eq_true_eq] at *; exact List.le_trans h1 h2
theorem leB_to : ∀ a b : List UInt8, (decide (a ≤ b) || decide (b ≤ a)) = true := fun a b => by simp only [Bool.or_eq_true, decide_eq_true_eq]; exact List.le_total a b
theorem sortB_sorted (l : List (List UInt8)) : (sortB l).Pairwise fun a b => decide (a ≤ b) = true := List.pairwise_mergeSort leB_tr leB_to l
theorem sortB_perm (l : List (List UInt8)) : (sortB l).Perm l := List.mergeSort_perm l _
theorem sort_uniq {l l' : List (List UInt8)} (h : l.Perm l') (hs : l.Pairwise fun a b => decide (a ≤ b) = true) : l = sortB l' := by
 refine List.Perm.eq_of_pairwise (le := fun a b => decide (a ≤ b) = true) (fun a b _ _ h1 h2 => ?_) hs (sortB_sorted l') (h.trans (sortB_perm l').symm)
 simp only [decide_eq_true_eq] at h1 h2
 exact List.le_antisymm h1 h2
theorem lt_le {a b : List UInt8} (h : a < b) : a ≤ b := List.le_of_lt h
theorem not_lt_le {a b : List UInt8} (h : ¬ a < b) : b ≤ a := h
theorem sort_ins {l : List (List UInt8)} {s : List UInt8} {m : Nat} (hm : m ≤ (sortB l).length) (h1 : ∀ x, x ∈ (sortB l).drop m → s < x) (h2 : m = 0 ∨ ∃ x, (sortB l)[m - 1]? = some x ∧ ¬ s < x) :
   (sortB l).take m ++ ([s] ++ (sortB l).drop m) = sortB (l ++ [s]) := by
 have hso := sortB_sorted l
 have hpe := sortB_perm l
 generalize sortB l = S at *
 refine sort_uniq ?_ ?_
 · have e : S.take m ++ S.drop m = S := List.take_append_drop _ _
   have p1 : (S.take m ++ ([s] ++ S.drop m)).Perm ([s] ++ (S.take m ++ S.drop m)) := by
     rw [← List.append_assoc, ← List.append_assoc]
     exact (List.perm_append_comm (l₁ := S.take m) (l₂ := [s])).append_right _
   refine p1.trans ?_
   rw [e]
   exact (List.perm_append_comm (l₁ := [s]) (l₂ := S)).trans (hpe.append_right _)
 · have hle : ∀ x, x ∈ S.take m → x ≤ s := by
     intro x hx
     rcases h2 with rfl | ⟨y, hy, hn⟩
     · simp at hx
     · obtain ⟨i, hi, rfl⟩ := List.getElem_of_mem hx
       have hi' : i < m ∧ i < S.length := by simpa [Nat.lt_min] using hi
       obtain ⟨hyl, hye⟩ := List.getElem?_eq_some_iff.1 hy
       rw [List.getElem_take]
       have hys : y ≤ s := not_lt_le hn
       rcases Nat.lt_or_ge i (m - 1) with h | h
       · have := (List.pairwise_iff_getElem.1 hso) i (m - 1) hi'.2 hyl h
         rw [hye] at this
         simp only [decide_eq_true_eq] at this
         exact List.le_trans this hys
       · have : i = m - 1 := by omega
         subst this
         rw [hye]; exact hys
   rw [List.pairwise_append]
   refine ⟨hso.sublist (List.take_sublist _ _), ?_, fun a ha b hb => ?_⟩
   · rw [List.singleton_append, List.pairwise_cons]
     exact ⟨fun x hx => by simp only [decide_eq_true_eq]; exact lt_le (h1 x hx), hso.sublist (List.drop_sublist _ _)⟩
   · simp only [decide_eq_true_eq]
     rcases List.mem_append.1 hb with hb | hb
     · simp at hb; subst hb; exact hle a ha
     · exact List.le_trans (hle a ha) (lt_le (h1 b hb))
theorem mem_sortB (s : List UInt8) (l : List (List UInt8)) : s ∈ sortB l ↔ s ∈ l := (sortB_perm l).mem_iff
theorem Tryz.rHop_in (S : List (List UInt8)) (nm : List UInt8) (v0 v5 v7 : V) (bx : Boxes) (hf : FinB bx) (Q : Exit → St → Prop) (st : St) (hl : S.length ≤ 1000000) (hc : Cov st ⟨74, slk [(0, v0), (5, v5), (6, .sl 1 (S.map .str)), (7, v7), (8, .str nm), (9, .int .i64 S.length)], bx⟩)
   (hQ : ∀ m, m ≤ S.length → (∀ x, x ∈ S.drop m → nm < x) → (m = 0 ∨ ∃ x, S[m - 1]? = some x ∧ ¬ nm < x) → Q (.exit 2) ⟨74, slk [(0, v0), (5, v5), (6, .sl 1 (S.map .str)), (7, v7), (8, .str nm), (9, .int .i64 m), (57, .bool false)], bx⟩) : pw Tryz.prog (.loop Tryz.L14_0) Q st := by
 refine pw_loop (ι := Nat) (fun m => m ≤ S.length ∧ ∀ x, x ∈ S.drop m → nm < x) (fun m => ⟨74, slk [(0, v0), (5, v5), (6, .sl 1 (S.map .str)), (7, v7), (8, .str nm), (9, .int .i64 m)], bx⟩) (fun m => m) S.length ⟨Nat.le_refl _, by simp⟩ hc ?_
 rintro m ⟨hm1, hm2⟩
 by_cases hm0 : m = 0
 · subst hm0
   simp [go_sem, Tryz.L14_0, hf]
   exact hQ 0 hm1 hm2 (.inl rfl)
 · obtain ⟨m', rfl⟩ : ∃ m', m = m' + 1 := ⟨m - 1, by omega⟩
   have hwm : IntKind.i64.wrap (m' : Int) = (m' : Int) := wr64 (by omega)
   have hml : m' < S.length := by omega
   simp [go_sem, Tryz.L14_0, hf, hwm, hml, Go.Proofs.bytesLess_eq]
   refine ⟨fun hlt => ⟨m', ⟨by omega, fun x hx => ?_⟩, cov_look (by simp [go_sem, hwm]), Nat.lt_succ_self m'⟩, fun hle => ?_⟩
   · rw [List.drop_eq_getElem_cons hml] at hx
     rcases List.mem_cons.1 hx with rfl | hx
     · exact hlt
     · exact hm2 x hx
   · have := hQ (m' + 1) hm1 hm2 (.inr ⟨S[m'], by simp [hml], List.not_lt.2 hle⟩)
     have hd : decide (nm < S[m']) = false := decide_eq_false (List.not_lt.2 hle)
     rw [hd]
     simpa using this
theorem Tryz.appS {bx bx1 bx2 : Boxes} {es news : List V} {v x : V} {d n : Nat} {sl : Nat → V} {K : St → Prop} (ha : Pl.Acc bx 9 1 es v bx1) (h2 : Ext bx1 bx2) (hf : FinB bx2) (src : srcEls ⟨n, sl, bx2⟩ 1 x = some news) (hlen : es.length + news.length ≤ 1000000) (hd : d < n)
   (hK : ∀ v' bx3, Pl.Acc bx 9 1 (es ++ news) v' bx3 → K (St.put ⟨n, sl, bx3⟩ (some d) v')) : appendA Tryz.prog ⟨n, sl, bx2⟩ (some d) 25 v x K :=
 acc_append (.string ⟨#[]⟩) ha h2 hf Tryz.knd25 Tryz.tsz9 src Tryz.tzero9 (by simp [go_sem]) (by omega) (by simp [Tryz.tby9]; omega) (by omega) (by simpa [go_sem] using hd) hK
set_option maxHeartbeats 2000000 in
theorem Tryz.rHop_c (l : List Fd) (hl : Small l) (bx : Boxes) : PureCall Tryz.prog 14 [.sl 2 (l.map fdV)] bx (resS (hopF l)) := by
 refine PureCall.wk (Tryz.ctr14 fun hf => ?_)
 simp [go_sem, Tryz.C14, hf]
 refine callK_pure (Tryz.rCheck_c l hl bx) ?_
 by_cases h : chkL l = 0
 · have hll := chkL_len h
   simp [go_sem, h, hf]
   refine callK_pure (Tryz.rnames_c l hl (by omega) _) ?_
   rw [namV_eq]
   cases hn : namesF l with
   | none =>
     simp [go_sem, hf]
     refine ret_wk0 (by simp [go_sem]) ?_
     simp [go_sem, resS, hopF, h, hn]
     exact wk_tup2 (wk_nils 1) (Wk.refl _)
   | some acc =>
     have hal := names_len l (by omega) hn
     simp [go_sem, hf]
     refine pw_upto l.length (fun k => ⟨74, slk [(0, .sl 2 (l.map fdV)), (5, .sl 1 (acc.map .str)), (6, .sl 1 ((sortB (metL (l.take k) acc)).map .str)), (7, .int .i64 k)], bx⟩) (cov_wk (Ext.refl _) ?_) (fun k hk N hN => ?_) (fun N => ?_)
     · intro p hp
       simp only [List.mem_cons, List.not_mem_nil, or_false] at hp
       rcases hp with rfl | rfl | rfl | rfl
       · exact .inl rfl
       · exact .inl rfl
       · refine .inr ⟨0, ?_⟩
         have e : sortB (metL (l.take 0) acc) = [] := by simp [metL, insL, sortB]
         rw [frz_0, e]
         exact wk_nils 1
       · exact .inl rfl
     · have hw := wr_succ (k := k) (by omega)
       have hsn := metL_snoc l acc hk
       have hle := metL_len (l.take k) acc
       rw [List.length_take] at hle
       have hsl : (sortB (metL (l.take k) acc)).length = (metL (l.take k) acc).length := (sortB_perm _).length_eq
       obtain ⟨hs1, hs2⟩ := hl l[k] (List.getElem_mem hk)
       simp [go_sem, Tryz.L14_1, hk, hf, fdV]
       refine callK_pure (Tryz.rFold_p _ _ hs1) ?_
       generalize hnm : Lib.toLowerA l[k].1 = nm at *
       simp [go_sem, hf]
       refine callK_pure (Tryz.in_c acc (by omega) _ _) ?_
       by_cases hI : nm ∈ acc
       · rw [if_pos hI] at hsn
         simp [go_sem, hf, hI]
         refine gK_pure (Tryz.in_c (sortB (metL (l.take k) acc)) (by omega) nm bx) (by simp) (by simp [go_sem]) ?_
         by_cases hO : nm ∈ metL (l.take k) acc
         · have hO2 : nm ∈ sortB (metL (l.take k) acc) := (mem_sortB _ _).2 hO
           have hsn2 : metL (l.take (k + 1)) acc = metL (l.take k) acc := by rw [hsn]; unfold insN; rw [if_pos hO]
           simp [go_sem, hf, hO2, hw]
           exact hN _ (cov_look (by simp [go_sem, fdV, hsn2]))
         · have hO2 : ¬ nm ∈ sortB (metL (l.take k) acc) := fun e => hO ((mem_sortB _ _).1 e)
           have hsn2 : metL (l.take (k + 1)) acc = metL (l.take k) acc ++ [nm] := by rw [hsn]; unfold insN; rw [if_neg hO]
           have hins := @sort_ins (metL (l.take k) acc) nm
           rw [← hsn2] at hins
           generalize sortB (metL (l.take (k + 1)) acc) = S2 at *
           generalize sortB (metL (l.take k) acc) = S at *
           simp [go_sem, hf, hO2, hw]
           refine Tryz.rHop_in S nm (.sl 2 (l.map fdV)) (.sl 1 (acc.map .str)) (.int .i64 k) bx hf _ _ (by omega) (cov_look (by simp [go_sem, fdV])) fun m hm1 hm2 hm3 => ?_
           have hins2 := hins hm1 hm2 hm3
           have hS : S.length ≤ 1000 := by omega
           have e1 : List.drop m (List.take S.length (List.map V.str S)) = (S.drop m).map .str := by rw [List.take_of_length_le (by simp), List.map_drop]
           have e2 : List.take m (List.map V.str S) = (S.take m).map .str := by rw [List.map_take]
           simp [go_sem, hf, -List.map_drop, -List.map_take]
           intro c hc
           refine ⟨hm1, ?_⟩
           rw [e1]
           refine Tryz.appS (bx := bx) (es := [.str nm]) (news := (S.drop m).map .str) (acc_new hc hf 9 1 [.str nm] 1 rfl) (Ext.refl _) (by simp [finB_upd, hf]) (by simp [go_sem, srcEls]) (by simp; omega) (by omega) ?_
           intro v1 bx1 ha1
           obtain ⟨c1, g1, rfl, g2⟩ := ha1.row (by simp)
           simp [go_sem, ha1.fin, -List.map_drop, -List.map_take]
           intro d hd
           refine ⟨hm1, ?_⟩
           rw [e2]
           refine Tryz.appS (bx := bx1) (es := []) (news := (S.take m).map .str) (acc_new hd ha1.fin 9 1 [] 0 rfl) (Ext.refl _) (by simp [finB_upd, ha1.fin]) (by simp [go_sem, srcEls]) (by simp; omega) (by omega) ?_
           intro v2 bx2 ha2
           have g3 : bx2 c1 = some (.row 9 1 ([V.str nm] ++ (S.drop m).map .str)) := by rw [ha2.ext c1 (by rw [g2]; simp), g2]
           simp [go_sem, ha2.fin, ha2.cells, -List.map_drop, -List.map_take]
           refine Tryz.appS (bx := bx1) (es := (S.take m).map .str) (news := [V.str nm] ++ (S.drop m).map .str) (by simpa using ha2) (Ext.refl _) ha2.fin (by simp [go_sem, srcEls, g3]; exact List.take_of_length_le (by simp)) (by simp; omega) (by omega) ?_
           intro v3 bx3 ha3
           have e3 : (S.take m).map V.str ++ ([V.str nm] ++ (S.drop m).map .str) = S2.map .str := by rw [← hins2]; simp
           rw [e3] at ha3
           simp [go_sem, ha3.fin, ha3.cells, hw]
           have ha4 := ha3.base ha1.ext
           refine hN _ (cov_wk ha4.ext ?_)
           intro p hp
           simp only [List.mem_cons, List.not_mem_nil, or_false] at hp
           rcases hp with rfl | rfl | rfl | rfl
           · exact .inl rfl
           · exact .inl rfl
           · exact .inr ⟨1, acc_frz1 ha4 (by decide)⟩
           · exact .inl (by simp [go_sem])
       · rw [if_neg hI] at hsn
         simp [go_sem, hf, hI]
         refine gK_off (.bool false) (by simp [go_sem]) ?_
         simp [go_sem, hf, hI, hw]
         exact hN _ (cov_look (by simp [go_sem, fdV, hsn]))
     · simp [go_sem, Tryz.L14_1, hf]
       refine ret_wk0 (by simp [go_sem]) ?_
       simp [go_sem, resS, hopF, h, hn]
       exact Wk.refl _
 · simp [go_sem, h, hf]
   refine ret_wk0 (by simp [go_sem]) ?_
   simp [go_sem, resS, hopF, h]
   exact wk_tup2 (wk_nils 1) (Wk.refl _)
end Go.Proofs
