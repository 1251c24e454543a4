/- Walks: climb. -/
import Derived.Test.YtmbbdblmengdhaaV16
import Derived.Test.YtmbbdblmengdhaaA12
set_option linter.unusedSimpArgs false
set_option linter.unusedVariables false
namespace Go.Proofs.Ytmbbdblmengdhaa
open Go.RowKit

instance : OneT 90 := ⟨scalar_of Try.underlying90 rfl, by kernel_rfl⟩
theorem z90 (w : World) : (zeroValue 90).run Try.prog w = .ok (.pointer none) w := by kernel_rfl

theorem Has.swap2 {W : Base} {w : World} {x y : Blk} {bs : List Blk} (h : Has W w (x :: y :: bs)) : Has W w (y :: x :: bs) := by
  refine ⟨h.good, fun z hz => h.blk z (by simp at hz ⊢; rcases hz with h | h | h <;> simp [h]), ?_⟩
  have := h.nd
  rw [List.pairwise_cons, List.pairwise_cons] at this ⊢
  obtain ⟨h1, h2, h3⟩ := this
  refine ⟨fun z hz => ?_, fun z hz => h1 z (by simp [hz]), h3⟩
  rcases List.mem_cons.1 hz with rfl | hz
  · exact fun e => h1 y (by simp) e.symm
  · exact h2 z hz
/-- The rungs behind the bits. -/
noncomputable def rGo {u : Nat} {r0 : List Nat} (h0 : LimS r0 u ⟨1, 0, u, 1⟩) : (rev : List Bool) → { r : List Nat // LimS r u (ladL u rev.reverse) }
  | [] => ⟨r0, h0⟩
  | x :: rev => ⟨Classical.choose (step_any (rGo h0 rev).2 x), by
      rw [List.reverse_cons, ladL_snoc]; exact (Classical.choose_spec (step_any (rGo h0 rev).2 x)).1⟩
structure StepsTo (r r' : List Nat) (x : Bool) : Prop where
  run : ∀ {W : Base} {bs : List Blk} {rb : Nat} (w : World), Has W w ((rb, C .u64 r, 95) :: bs) →
  Calls Try.prog 65 #[.pointer (some ⟨rb, 0, none⟩), .int .i64 (bN x : Nat)] w fun e w' => e = .returned (.tuple #[]) ∧ Has W w' ((rb, C .u64 r', 95) :: bs)
theorem rungs_ex {u : Nat} {r0 : List Nat} (h0 : LimS r0 u ⟨1, 0, u, 1⟩) : ∃ rF : List Bool → List Nat, rF [] = r0 ∧ (∀ pre, LimS (rF pre) u (ladL u pre)) ∧ ∀ pre x, StepsTo (rF pre) (rF (pre ++ [x])) x := by
  refine ⟨fun pre => (rGo h0 pre.reverse).1, rfl, fun pre => ?_, fun pre x => ?_⟩
  · have key : ∀ s : Sides Nat, s = ladL u pre.reverse.reverse → LimS (rGo h0 pre.reverse).1 u s := fun s hs => by
      subst hs; exact (rGo h0 pre.reverse).2
    exact key _ (by rw [List.reverse_reverse])
  · refine ⟨fun {W bs rb} w hH => ?_⟩
    have e : (rGo h0 (pre ++ [x]).reverse).1 = (rGo h0 (x :: pre.reverse)).1 := by rw [List.reverse_append]; rfl
    show Calls _ _ _ _ fun e w' => _ ∧ Has W w' ((rb, C .u64 (rGo h0 (pre ++ [x]).reverse).1, 95) :: bs)
    rw [e]
    exact (Classical.choose_spec (step_any (rGo h0 pre.reverse).2 x)).2 w hH

set_option maxRecDepth 100000 in
set_option maxHeartbeats 2000000 in
theorem climb_walk {k K ul one x0 z0 iv m rE : List Nat} {rF : List Bool → List Nat} (hk : k.length = 32) (hK : K.length = 32) (hKb : ∀ i, K.getD i 0 < 256) (hul : ul.length = 5) (hol : one.length = 5) (hx0 : x0.length = 5) (hz0 : z0.length = 5) (hm : m.length = 5)
    (hc : Ret 18 #[.agg (C .u8 k)] (.agg (C .u8 K))) (h1 : Ret 26 #[.int .i64 1] (.agg (C .u64 one))) (hr0 : Veil (rF [] = ul ++ (one ++ [0, 0, 0, 0, 0] ++ (ul ++ one)))) (hst : Veil (∀ pre x, StepsTo (rF pre) (rF (pre ++ [x])) x))
    (HE : Veil (rE = rF (upBits K 256))) (HX : Veil ((rE.drop 5).take 5 = x0)) (HZ : Veil ((rE.drop 10).take 5 = z0)) (hinv : Ret 41 #[.agg (C .u64 z0)] (.agg (C .u64 iv))) (hmul : Ret 23 #[.agg (C .u64 x0), .agg (C .u64 iv)] (.agg (C .u64 m))) :
    Ret 56 #[.agg (C .u8 k), .agg (C .u64 ul)] (.agg (C .u64 m)) := by
  refine ⟨fun w => ?_⟩
  obtain ⟨W, hW⟩ : ∃ W, W = w := ⟨_, rfl⟩
  have hH := Has.nil W
  rw [← hW]
  clear hW
  have HKB : Veil (∀ i, K.getD i 0 < 256) := ⟨hKb⟩
  clear hKb
  refine (callsIn_wide (n := 4)).1 ?_
  refine callsIn_of_wp_marks Try.func56 rfl trivial ?_ -- go_enter Try.func56
  simp only [Try.ntmps56, List.size_toArray, List.length_cons, List.length_nil, Nat.reduceAdd, Nat.reduceSub, Array.replicate_succ, Array.replicate_zero, List.push_toArray, List.append_toArray, List.nil_append, List.cons_append]
  refine wpIn_wide.2 ?_
  apply wp_seq_k; intro K1 hK1
  apply wp_region_lit
  refine wl_boxA rfl rfl rfl hH ?_
  clear hH; intro b1 w hH
  refine wl_boxA rfl rfl rfl hH ?_
  clear hH; intro b2 w hH
  refine wl_allocA rfl rfl z31 hH ?_
  clear hH; intro b3 w hH
  simp only [Act.put, List.setIfInBounds_toArray, List.set_cons_zero, List.set_cons_succ]
  go_wp2_with (first | ((first | ((with_reducible show wpList _ _ _ (_ :: _) _ _); first | refine wl_callc rfl rfl (f := 18) rfl (args1 _ _) (hc) hH ?_ | (refine wl_bits rfl rfl rfl (args1 _ _) hH ?_; clear hH; intro bk w hH) | ((with_reducible show wpList _ _ _ (⟨_, Op.load 23 _, _, _, _, _⟩ :: _) _ _); first | refine wl_loadC 0 rfl rfl rfl hH rfl ?_ ?_ | refine wl_loadC 1 rfl rfl rfl hH rfl ?_ ?_ | refine wl_loadC 2 rfl rfl rfl hH rfl ?_ ?_ | refine wl_loadC 3 rfl rfl rfl hH rfl ?_ ?_ | refine wl_loadC 4 rfl rfl rfl hH rfl ?_ ?_) | ((with_reducible show wpList _ _ _ (⟨_, Op.load 90 _, _, _, _, _⟩ :: _) _ _); first | refine wl_load 0 rfl rfl rfl hH rfl (C_get ?_) ?_ | refine wl_load 1 rfl rfl rfl hH rfl (C_get ?_) ?_ | refine wl_load 2 rfl rfl rfl hH rfl (C_get ?_) ?_ | refine wl_load 3 rfl rfl rfl hH rfl (C_get ?_) ?_ | refine wl_load 4 rfl rfl rfl hH rfl (C_get ?_) ?_) | ((with_reducible show wpList _ _ _ (⟨_, Op.store 31 _ _, _, _, _, _⟩ :: _) _ _); first | refine wl_storerowC 0 rfl rfl rfl rfl hH rfl ?_ ?_ ?_ | refine wl_storerowC 1 rfl rfl rfl rfl hH rfl ?_ ?_ ?_ | refine wl_storerowC 2 rfl rfl rfl rfl hH rfl ?_ ?_ ?_ | refine wl_storerowC 3 rfl rfl rfl rfl hH rfl ?_ ?_ ?_ | refine wl_storerowC 4 rfl rfl rfl rfl hH rfl ?_ ?_ ?_) | ((with_reducible show wpList _ _ _ (⟨_, Op.store 90 _ _, _, _, _, _⟩ :: _) _ _); first | refine wl_storeC 0 rfl rfl rfl rfl hH rfl ?_ ?_ | refine wl_storeC 1 rfl rfl rfl rfl hH rfl ?_ ?_ | refine wl_storeC 2 rfl rfl rfl rfl hH rfl ?_ ?_ | refine wl_storeC 3 rfl rfl rfl rfl hH rfl ?_ ?_ | refine wl_storeC 4 rfl rfl rfl rfl hH rfl ?_ ?_) | ((first | refine wl_val rfl (ex_move rfl rfl) ?_ | refine wl_val rfl (ex_assign rfl rfl) ?_); try simp only [Act.eval, Array.getD_eq_getD_getElem?, List.getElem?_toArray, List.getElem?_cons_succ, List.getElem?_cons_zero, Option.getD_some, Act.put, List.setIfInBounds_toArray, List.set_cons_zero, List.set_cons_succ])) | ((with_reducible show wpD _ _ _ _ _ (_ :: _) _); first | refine wd_call rfl rfl (f := 26) rfl (args1 _ _) (h1) ?_ | refine wd_val rfl (ex_build rfl (b31_0)) ?_ | refine wd_val rfl (ex_build rfl (b31_1 ?_)) ?_ | refine wd_val rfl (ex_build rfl (b92_2 ?_ ?_)) ?_ | refine wd_val rfl (ex_build rfl (b93_2 ?_ ?_ ?_ ?_)) ?_ | refine wd_val rfl (ex_build rfl (b95_2 ?_ ?_ ?_ ?_ ?_)) ?_ | refine wd_val rfl (ex_ixaddr rfl rfl rfl ?_) ?_ | refine wd_val rfl (ex_fld rfl rfl) ?_ | refine wd_val rfl (ex_nil rfl rfl) ?_ | refine wd_val rfl (ex_ixaddr1 rfl rfl rfl ?_) ?_ | ((with_reducible show wpD _ _ _ _ _ (⟨_, Op.load 31 _, _, _, _, _⟩ :: _) _); first | refine wd_valH rfl (fun w hH => ex_loadC 0 rfl rfl hH rfl ?_) ?_ | refine wd_valH rfl (fun w hH => ex_loadC 1 rfl rfl hH rfl ?_) ?_ | refine wd_valH rfl (fun w hH => ex_loadC 2 rfl rfl hH rfl ?_) ?_ | refine wd_valH rfl (fun w hH => ex_loadC 3 rfl rfl hH rfl ?_) ?_ | refine wd_valH rfl (fun w hH => ex_loadC 4 rfl rfl hH rfl ?_) ?_) | ((with_reducible show wpD _ _ _ _ _ (⟨_, Op.load 90 _, _, _, _, _⟩ :: _) _); first | refine wd_valH rfl (fun w hH => ex_load 0 rfl rfl hH rfl (C_get ?_)) ?_ | refine wd_valH rfl (fun w hH => ex_load 1 rfl rfl hH rfl (C_get ?_)) ?_ | refine wd_valH rfl (fun w hH => ex_load 2 rfl rfl hH rfl (C_get ?_)) ?_ | refine wd_valH rfl (fun w hH => ex_load 3 rfl rfl hH rfl (C_get ?_)) ?_ | refine wd_valH rfl (fun w hH => ex_load 4 rfl rfl hH rfl (C_get ?_)) ?_) | refine wd_skip rfl ?_ | (refine wd_val (v := ?_) rfl ?_ ?_; rotate_left; focus (intro w; go_simp; try with_reducible rfl))) | ((with_reducible show Code.wp _ (Code.region 1 _ true) _ _ _); refine wp_draw 9 [(C .u64 (ul ++ (one ++ [0, 0, 0, 0, 0] ++ (ul ++ one))), 95), ((Value.pointer none).cells, 90)] (by kernel_rfl) hH ?_) | ((refine wn_box rfl rfl rfl ?_; intro br; try dsimp only)) | ((refine wn_alloc1 rfl rfl z90 ?_; intro bp; try dsimp only)) | (((with_reducible show wpList _ _ _ (⟨_, Op.store 90 _ _, _, _, _, _⟩ :: _) _ _); refine wl_store 1 rfl rfl rfl rfl rfl hH rfl (by decide) ?_)) | ((with_reducible show wpD _ _ _ _ _ _ _); refine wd_done ?_; try dsimp only) | ((with_reducible show wpN _ _ _ _ _ _); refine wn_done ?_; try dsimp only)) <;> (first | ((with_reducible show wpList _ _ _ _ _ _); try simp only [Act.put, List.setIfInBounds_toArray, List.set_cons_zero, List.set_cons_succ]) | ((with_reducible show wpD _ _ _ _ _ _ _); try simp only [Act.put, List.setIfInBounds_toArray, List.set_cons_zero, List.set_cons_succ]) | (with_reducible show wpN _ _ _ _ _ _) | (with_reducible show Code.wp _ _ _ _ _) | (clear hH; intro w hH; (try simp only [List.nil_append, List.cons_append] at hH); (try simp only [Act.put, List.setIfInBounds_toArray, List.set_cons_zero, List.set_cons_succ] at hH ⊢)) | first | with_reducible assumption | omega | (simp only [List.length_set, List.length_replicate]; omega) | (simp; done) | (simp; omega))) | fail)
  have hH2 : Has (baseW W) w [(bk, C .u8 K, 23), (br, C .u64 (ul ++ (one ++ [0, 0, 0, 0, 0] ++ (ul ++ one))), 95), (bp, #[.pointer (some ⟨br, 0, none⟩)], 90), (b3, C .u64 [0, 0, 0, 0, 0], 31), (b2, C .u64 ul, 31), (b1, C .u8 k, 23)] := hH
  clear hH
  rw [← hr0.out] at hH2
  have hperm : ∀ {w : World} {R : List Nat}, Has (baseW W) w [(bk, C .u8 K, 23), (br, C .u64 R, 95), (bp, #[.pointer (some ⟨br, 0, none⟩)], 90), (b3, C .u64 [0, 0, 0, 0, 0], 31), (b2, C .u64 ul, 31), (b1, C .u8 k, 23)] →
      Has (baseW W) w [(br, C .u64 R, 95), (bk, C .u8 K, 23), (bp, #[.pointer (some ⟨br, 0, none⟩)], 90), (b3, C .u64 [0, 0, 0, 0, 0], 31), (b2, C .u64 ul, 31), (b1, C .u8 k, 23)] := fun h => h.swap2
  have hH := hperm hH2
  clear hH2 hperm
  have hKW : w.heap[bk]? = some (.cells (C .u8 K) 23 (0, 0)) := hH.get (i := 1) rfl
  have hbk : bk < w.heap.size := (Array.getElem?_eq_some_iff.1 hKW).1
  have HDW : Veil (W.heap.size ≤ w.heap.size) := ⟨hH.below.size⟩
  refine (wpIn_wide (n := 4)).1 ?_
  refine wpIn_rangeFunc_ownF rfl (by decide) (gf := 59) (lb := #[.pointer (some ⟨bk, 0, none⟩)]) rfl trivial (enters_of Try.func59 (by kernel_rfl) rfl)
    (bits_stopsB (4 - 1) (by decide) hK HKB.out hKW) keepB_t (keepB_b hbk) (Below.refl _ _) (fun _ => rfl)
    (fun pre w' => Has (baseW W) w' [(br, C .u64 (rF pre), 95), (bk, C .u8 K, 23), (bp, #[.pointer (some ⟨br, 0, none⟩)], 90), (b3, C .u64 [0, 0, 0, 0, 0], 31), (b2, C .u64 ul, 31), (b1, C .u8 k, 23)])
    (fun _ _ _ => False)
    (has_ownFrom hH.below.size)
    (fun _ _ _ _ _ hs _ _ => hs)
    hH
    (fun x => { tmps := #[.agg (C .u8 k), .agg (C .u64 ul), .pointer (some ⟨b1, 0, none⟩), .pointer (some ⟨b2, 0, none⟩), .pointer (some ⟨b3, 0, none⟩), .pointer (some ⟨bp, 0, none⟩), .int .i64 (bN x : Nat), .agg (C .u64 ul), .agg (C .u64 one), .agg (C .u64 [0, 0, 0, 0, 0]), .agg (C .u64 (one ++ [0, 0, 0, 0, 0])), .agg (C .u64 ul), .agg (C .u64 one), .agg (C .u64 (ul ++ one)), .agg (C .u64 (one ++ [0, 0, 0, 0, 0] ++ (ul ++ one))), .agg (C .u64 (ul ++ (one ++ [0, 0, 0, 0, 0] ++ (ul ++ one)))), .pointer (some ⟨br, 0, none⟩), .agg (C .u8 k), .agg (C .u8 K), itV bk, .int .i64 (bN x : Nat), undef, undef, undef, undef, undef, undef, undef, undef, undef, undef, undef, undef, undef, undef, undef, undef, undef], defers := [] }) ?assign ?body ?done ?stop
  case assign =>
    intro lp x w' K hK
    unfold encB
    refine region_rd letsOut_false rfl ?_
    go_wp2
    simp only [List.append_assoc, List.cons_append, List.nil_append] at hK
    exact hK
  case body =>
    intro lp pre x w' hHI _
    have hH0 := hHI
    clear hH
    obtain ⟨hn, hH⟩ := hHI.round'
    clear hHI
    have hcall := hst.out pre x
    have hc0 := hH0
    generalize rF pre = R at hH hH0 hcall hc0
    obtain ⟨R', hR'⟩ : ∃ R', R' = rF (pre ++ [x]) := ⟨_, rfl⟩
    rw [← hR'] at hcall
    have HR := Lib.hid hR'
    clear hR'
    refine wpIn_block ?_
    refine region_rd (fun ⟨_, _, h⟩ => h) rfl ?_
    go_wp2_with (first | ((first | ((with_reducible show wpList _ _ _ (_ :: _) _ _); first | ((with_reducible show wpList _ _ _ (⟨_, Op.load 90 _, _, _, _, _⟩ :: _) _ _); refine wl_load 2 rfl rfl rfl hH rfl (v := (.pointer (some ⟨br, 0, none⟩))) rfl ?_) | ((with_reducible show wpList _ _ _ (⟨_, Op.load 23 _, _, _, _, _⟩ :: _) _ _); first | refine wl_loadC 0 rfl rfl rfl hH rfl ?_ ?_ | refine wl_loadC 1 rfl rfl rfl hH rfl ?_ ?_) | ((with_reducible show wpList _ _ _ (⟨_, Op.load 90 _, _, _, _, _⟩ :: _) _ _); first | refine wl_load 0 rfl rfl rfl hH rfl (C_get ?_) ?_ | refine wl_load 1 rfl rfl rfl hH rfl (C_get ?_) ?_) | ((with_reducible show wpList _ _ _ (⟨_, Op.store 31 _ _, _, _, _, _⟩ :: _) _ _); first | refine wl_storerowC 0 rfl rfl rfl rfl hH rfl ?_ ?_ ?_ | refine wl_storerowC 1 rfl rfl rfl rfl hH rfl ?_ ?_ ?_) | ((with_reducible show wpList _ _ _ (⟨_, Op.store 90 _ _, _, _, _, _⟩ :: _) _ _); first | refine wl_storeC 0 rfl rfl rfl rfl hH rfl ?_ ?_ | refine wl_storeC 1 rfl rfl rfl rfl hH rfl ?_ ?_) | ((first | refine wl_val rfl (ex_move rfl rfl) ?_ | refine wl_val rfl (ex_assign rfl rfl) ?_); try simp only [Act.eval, Array.getD_eq_getD_getElem?, List.getElem?_toArray, List.getElem?_cons_succ, List.getElem?_cons_zero, Option.getD_some, Act.put, List.setIfInBounds_toArray, List.set_cons_zero, List.set_cons_succ])) | ((with_reducible show wpD _ _ _ _ _ (_ :: _) _); first | ((with_reducible show wpD _ _ _ _ _ (⟨_, Op.load 90 _, _, _, _, _⟩ :: _) _); refine wd_valH rfl (fun w hH => ex_load 2 rfl rfl hH rfl (v := (.pointer (some ⟨br, 0, none⟩))) rfl) ?_) | refine wd_val rfl (ex_build rfl (b31_0)) ?_ | refine wd_val rfl (ex_build rfl (b31_1 ?_)) ?_ | refine wd_val rfl (ex_build rfl (b92_2 ?_ ?_)) ?_ | refine wd_val rfl (ex_build rfl (b93_2 ?_ ?_ ?_ ?_)) ?_ | refine wd_val rfl (ex_build rfl (b95_2 ?_ ?_ ?_ ?_ ?_)) ?_ | refine wd_val rfl (ex_ixaddr rfl rfl rfl ?_) ?_ | refine wd_val rfl (ex_fld rfl rfl) ?_ | refine wd_val rfl (ex_nil rfl rfl) ?_ | refine wd_val rfl (ex_ixaddr1 rfl rfl rfl ?_) ?_ | ((with_reducible show wpD _ _ _ _ _ (⟨_, Op.load 31 _, _, _, _, _⟩ :: _) _); first | refine wd_valH rfl (fun w hH => ex_loadC 0 rfl rfl hH rfl ?_) ?_ | refine wd_valH rfl (fun w hH => ex_loadC 1 rfl rfl hH rfl ?_) ?_) | ((with_reducible show wpD _ _ _ _ _ (⟨_, Op.load 90 _, _, _, _, _⟩ :: _) _); first | refine wd_valH rfl (fun w hH => ex_load 0 rfl rfl hH rfl (C_get ?_)) ?_ | refine wd_valH rfl (fun w hH => ex_load 1 rfl rfl hH rfl (C_get ?_)) ?_) | refine wd_skip rfl ?_ | (refine wd_val (v := ?_) rfl ?_ ?_; rotate_left; focus (intro w; go_simp; try with_reducible rfl))) | ((refine wl_callS rfl rfl rfl (args2 _ _ _) (hcall.run _ hH) ?_)) | ((with_reducible show wpD _ _ _ _ _ _ _); refine wd_done ?_; try dsimp only) | ((with_reducible show wpN _ _ _ _ _ _); refine wn_done ?_; try dsimp only)) <;> (first | ((with_reducible show wpList _ _ _ _ _ _); try simp only [Act.put, List.setIfInBounds_toArray, List.set_cons_zero, List.set_cons_succ]) | ((with_reducible show wpD _ _ _ _ _ _ _); try simp only [Act.put, List.setIfInBounds_toArray, List.set_cons_zero, List.set_cons_succ]) | (with_reducible show wpN _ _ _ _ _ _) | (with_reducible show Code.wp _ _ _ _ _) | (clear hH; intro w hH; (try simp only [List.nil_append, List.cons_append] at hH); (try simp only [Act.put, List.setIfInBounds_toArray, List.set_cons_zero, List.set_cons_succ] at hH ⊢)) | first | with_reducible assumption | omega | (simp only [List.length_set, List.length_replicate]; omega) | (simp; done) | (simp; omega))) | fail)
    have hfin := hH0.unround hH
    refine ⟨hH.good.1, fun j => ?_, ?_⟩
    · rw [cell_of_row _ bk j (C .u8 K) 23 (0, 0) (hfin.get (i := 1) rfl), cell_of_row _ bk j (C .u8 K) 23 (0, 0) (hH0.get (i := 1) rfl)]
    · rw [HR.out] at hfin
      exact hfin
  case done =>
    intro D ys w' hD hys hHI hKD
    subst hys
    clear hH
    have hDW : W.heap.size ≤ D := Nat.le_trans HDW.out hD
    rw [← HE.out] at hHI
    have hH0 := hHI
    clear hHI
    obtain ⟨hn, hH⟩ := hH0.round'
    have HKD : Veil (w'.heap[D]? = some (.deferred (some []))) := ⟨hKD⟩
    clear hKD
    go_wp2_with (first | ((first | ((with_reducible show wpList _ _ _ (_ :: _) _ _); first | ((with_reducible show wpList _ _ _ (⟨_, Op.load 90 _, _, _, _, _⟩ :: _) _ _); refine wl_load 2 rfl rfl rfl hH rfl (v := (.pointer (some ⟨br, 0, none⟩))) rfl ?_) | refine wl_callc rfl rfl (f := 23) rfl (args2 _ _ _) (hmul) hH ?_ | ((with_reducible show wpList _ _ _ (⟨_, Op.load 23 _, _, _, _, _⟩ :: _) _ _); first | refine wl_loadC 0 rfl rfl rfl hH rfl ?_ ?_ | refine wl_loadC 1 rfl rfl rfl hH rfl ?_ ?_ | refine wl_loadC 2 rfl rfl rfl hH rfl ?_ ?_ | refine wl_loadC 3 rfl rfl rfl hH rfl ?_ ?_ | refine wl_loadC 4 rfl rfl rfl hH rfl ?_ ?_ | refine wl_loadC 5 rfl rfl rfl hH rfl ?_ ?_) | ((with_reducible show wpList _ _ _ (⟨_, Op.load 90 _, _, _, _, _⟩ :: _) _ _); first | refine wl_load 0 rfl rfl rfl hH rfl (C_get ?_) ?_ | refine wl_load 1 rfl rfl rfl hH rfl (C_get ?_) ?_ | refine wl_load 2 rfl rfl rfl hH rfl (C_get ?_) ?_ | refine wl_load 3 rfl rfl rfl hH rfl (C_get ?_) ?_ | refine wl_load 4 rfl rfl rfl hH rfl (C_get ?_) ?_ | refine wl_load 5 rfl rfl rfl hH rfl (C_get ?_) ?_) | ((with_reducible show wpList _ _ _ (⟨_, Op.store 31 _ _, _, _, _, _⟩ :: _) _ _); first | refine wl_storerowC 0 rfl rfl rfl rfl hH rfl ?_ ?_ ?_ | refine wl_storerowC 1 rfl rfl rfl rfl hH rfl ?_ ?_ ?_ | refine wl_storerowC 2 rfl rfl rfl rfl hH rfl ?_ ?_ ?_ | refine wl_storerowC 3 rfl rfl rfl rfl hH rfl ?_ ?_ ?_ | refine wl_storerowC 4 rfl rfl rfl rfl hH rfl ?_ ?_ ?_ | refine wl_storerowC 5 rfl rfl rfl rfl hH rfl ?_ ?_ ?_) | ((with_reducible show wpList _ _ _ (⟨_, Op.store 90 _ _, _, _, _, _⟩ :: _) _ _); first | refine wl_storeC 0 rfl rfl rfl rfl hH rfl ?_ ?_ | refine wl_storeC 1 rfl rfl rfl rfl hH rfl ?_ ?_ | refine wl_storeC 2 rfl rfl rfl rfl hH rfl ?_ ?_ | refine wl_storeC 3 rfl rfl rfl rfl hH rfl ?_ ?_ | refine wl_storeC 4 rfl rfl rfl rfl hH rfl ?_ ?_ | refine wl_storeC 5 rfl rfl rfl rfl hH rfl ?_ ?_) | ((first | refine wl_val rfl (ex_move rfl rfl) ?_ | refine wl_val rfl (ex_assign rfl rfl) ?_); try simp only [Act.eval, Array.getD_eq_getD_getElem?, List.getElem?_toArray, List.getElem?_cons_succ, List.getElem?_cons_zero, Option.getD_some, Act.put, List.setIfInBounds_toArray, List.set_cons_zero, List.set_cons_succ])) | ((with_reducible show wpD _ _ _ _ _ (_ :: _) _); first | ((with_reducible show wpD _ _ _ _ _ (⟨_, Op.load 90 _, _, _, _, _⟩ :: _) _); refine wd_valH rfl (fun w hH => ex_load 2 rfl rfl hH rfl (v := (.pointer (some ⟨br, 0, none⟩))) rfl) ?_) | ((with_reducible show wpD _ _ _ _ _ (⟨_, Op.load 31 _, _, _, _, _⟩ :: _) _); refine wd_valH rfl (fun w hH => ex_loadV 0 rfl rfl hH rfl HX.out ?_) ?_) | ((with_reducible show wpD _ _ _ _ _ (⟨_, Op.load 31 _, _, _, _, _⟩ :: _) _); refine wd_valH rfl (fun w hH => ex_loadV 0 rfl rfl hH rfl HZ.out ?_) ?_) | refine wd_call rfl rfl (f := 41) rfl (args1 _ _) (hinv) ?_ | refine wd_call rfl rfl (f := 23) rfl (args2 _ _ _) (hmul) ?_ | refine wd_val rfl (ex_build rfl (b31_0)) ?_ | refine wd_val rfl (ex_build rfl (b31_1 ?_)) ?_ | refine wd_val rfl (ex_build rfl (b92_2 ?_ ?_)) ?_ | refine wd_val rfl (ex_build rfl (b93_2 ?_ ?_ ?_ ?_)) ?_ | refine wd_val rfl (ex_build rfl (b95_2 ?_ ?_ ?_ ?_ ?_)) ?_ | refine wd_val rfl (ex_ixaddr rfl rfl rfl ?_) ?_ | refine wd_val rfl (ex_fld rfl rfl) ?_ | refine wd_val rfl (ex_nil rfl rfl) ?_ | refine wd_val rfl (ex_ixaddr1 rfl rfl rfl ?_) ?_ | ((with_reducible show wpD _ _ _ _ _ (⟨_, Op.load 31 _, _, _, _, _⟩ :: _) _); first | refine wd_valH rfl (fun w hH => ex_loadC 0 rfl rfl hH rfl ?_) ?_ | refine wd_valH rfl (fun w hH => ex_loadC 1 rfl rfl hH rfl ?_) ?_ | refine wd_valH rfl (fun w hH => ex_loadC 2 rfl rfl hH rfl ?_) ?_ | refine wd_valH rfl (fun w hH => ex_loadC 3 rfl rfl hH rfl ?_) ?_ | refine wd_valH rfl (fun w hH => ex_loadC 4 rfl rfl hH rfl ?_) ?_ | refine wd_valH rfl (fun w hH => ex_loadC 5 rfl rfl hH rfl ?_) ?_) | ((with_reducible show wpD _ _ _ _ _ (⟨_, Op.load 90 _, _, _, _, _⟩ :: _) _); first | refine wd_valH rfl (fun w hH => ex_load 0 rfl rfl hH rfl (C_get ?_)) ?_ | refine wd_valH rfl (fun w hH => ex_load 1 rfl rfl hH rfl (C_get ?_)) ?_ | refine wd_valH rfl (fun w hH => ex_load 2 rfl rfl hH rfl (C_get ?_)) ?_ | refine wd_valH rfl (fun w hH => ex_load 3 rfl rfl hH rfl (C_get ?_)) ?_ | refine wd_valH rfl (fun w hH => ex_load 4 rfl rfl hH rfl (C_get ?_)) ?_ | refine wd_valH rfl (fun w hH => ex_load 5 rfl rfl hH rfl (C_get ?_)) ?_) | refine wd_skip rfl ?_ | (refine wd_val (v := ?_) rfl ?_ ?_; rotate_left; focus (intro w; go_simp; try with_reducible rfl))) | ((with_reducible show Code.wp _ (Code.region 5 _ true) _ _ _); refine wp_draw 13 [] (by kernel_rfl) hH ?_) | ((with_reducible show wpD _ _ _ _ _ _ _); refine wd_done ?_; try dsimp only) | ((with_reducible show wpN _ _ _ _ _ _); refine wn_done ?_; try dsimp only)) <;> (first | ((with_reducible show wpList _ _ _ _ _ _); try simp only [Act.put, List.setIfInBounds_toArray, List.set_cons_zero, List.set_cons_succ]) | ((with_reducible show wpD _ _ _ _ _ _ _); try simp only [Act.put, List.setIfInBounds_toArray, List.set_cons_zero, List.set_cons_succ]) | (with_reducible show wpN _ _ _ _ _ _) | (with_reducible show Code.wp _ _ _ _ _) | (clear hH; intro w hH; (try simp only [List.nil_append, List.cons_append] at hH); (try simp only [Act.put, List.setIfInBounds_toArray, List.set_cons_zero, List.set_cons_succ] at hH ⊢)) | first | with_reducible assumption | omega | (simp only [List.length_set, List.length_replicate]; omega) | (simp; done) | (simp; omega))) | fail)
    exact ret_mark 3 rfl rfl (hH0.unround hH) rfl (by rw [C_size]; exact hm) rfl (hH.good.1.same D _ HKD.out rfl) hDW (fun _ h => ⟨rfl, h⟩)
  case stop =>
    intro D c pre w' _ _ h _
    exact h.elim

theorem climb_ex {k ul : List Nat} {u : Nat} (hk : k.length = 32) (hkb : ∀ i, k.getD i 0 < 256) (hu : Lim ul u) : ∃ m, Lim m (comeN (secN k) u) ∧ Ret 56 #[vK k, vF ul] (vF m) := by
  have hK : (clampL k).length = 32 := by rw [clampL_len, hk]
  have hKb := clamp_dig hkb
  obtain ⟨one, lo, ro⟩ := small_ex (m := 1) (by decide)
  rw [one_mod] at lo
  have h0 : LimS (ul ++ (one ++ [0, 0, 0, 0, 0] ++ (ul ++ one))) u ⟨1, 0, u, 1⟩ := ⟨ul, one, _, ul, one, rfl, hu, lo, zero_lim, hu, lo⟩
  obtain ⟨rF, e0, hl, hst⟩ := rungs_ex h0
  obtain ⟨vl, x0, z0, x1, z1, hr, gu, g0, g1, g2, g3⟩ := hl (upBits (clampL k) 256)
  rw [ladL_all u hK hKb] at g0 g1
  obtain ⟨iv, li, ri⟩ := inv_ex g1
  obtain ⟨m, lm, rm⟩ := mul_ex g0 li
  have ex : ((rF (upBits (clampL k) 256)).drop 5).take 5 = x0 := by
    rw [hr, List.drop_left' gu.len, List.append_assoc, List.take_left' g0.len]
  have ez : ((rF (upBits (clampL k) 256)).drop 10).take 5 = z0 := by
    rw [hr, List.append_assoc x0, ← List.append_assoc vl, List.drop_left' (by simp [gu.len, g0.len]), List.take_left' g1.len]
  exact ⟨m, lm, climb_walk hk hK hKb hu.len lo.len g0.len g1.len lm.len (clamp_any hk hkb) ro ⟨e0⟩ ⟨hst⟩ ⟨rfl⟩ ⟨ex⟩ ⟨ez⟩ ri rm⟩
end Go.Proofs.Ytmbbdblmengdhaa

/- Walks: Public, Agree, New; errors as numbers. -/
namespace Go.Proofs.Ytmbbdblmengdhaa
open Go.RowKit

theorem len32 {l : List Nat} (h : l.length = 32) : ∃ a0 a1 a2 a3 a4 a5 a6 a7 a8 a9 a10 a11 a12 a13 a14 a15 a16 a17 a18 a19 a20 a21 a22 a23 a24 a25 a26 a27 a28 a29 a30 a31, l = [a0, a1, a2, a3, a4, a5, a6, a7, a8, a9, a10, a11, a12, a13, a14, a15, a16, a17, a18, a19, a20, a21, a22, a23, a24, a25, a26, a27, a28, a29, a30, a31] := by
  match l, h with
  | [a0, a1, a2, a3, a4, a5, a6, a7, a8, a9, a10, a11, a12, a13, a14, a15, a16, a17, a18, a19, a20, a21, a22, a23, a24, a25, a26, a27, a28, a29, a30, a31], _ => exact ⟨a0, a1, a2, a3, a4, a5, a6, a7, a8, a9, a10, a11, a12, a13, a14, a15, a16, a17, a18, a19, a20, a21, a22, a23, a24, a25, a26, a27, a28, a29, a30, a31, rfl⟩
theorem b63_2 {l m : List Nat} (h : l.length = 32) (h' : m.length = 32) : Built 63 [(0, .agg (C .u8 l)), (1, .agg (C .u8 m))] (C .u8 (l ++ m)) := by
  obtain ⟨a0, a1, a2, a3, a4, a5, a6, a7, a8, a9, a10, a11, a12, a13, a14, a15, a16, a17, a18, a19, a20, a21, a22, a23, a24, a25, a26, a27, a28, a29, a30, a31, rfl⟩ := len32 h; obtain ⟨b0, b1, b2, b3, b4, b5, b6, b7, b8, b9, b10, b11, b12, b13, b14, b15, b16, b17, b18, b19, b20, b21, b22, b23, b24, b25, b26, b27, b28, b29, b30, b31, rfl⟩ := len32 h'; exact ⟨by kernel_rfl⟩

section ex
variable {a : Act} {o : Oper}
theorem ex_mki {x : Operand} (ho : o.op = .makeInterface 81 x) {v : Value} (hx : a.eval x = v) (w : World) : (execOp a.eval o).run Try.prog w = .ok (.value (.iface 81 v)) w := by
  unfold execOp
  simp only [ho, hx, Sem.run_bind, run_makeInterface (P := Try.prog) w 81 v (by kernel_rfl), Result.andThen_ok, Sem.run_pure]
end ex

set_option maxRecDepth 100000 in
set_option maxHeartbeats 1000000 in
theorem public_walk {k ul m out : List Nat} (hk : k.length = 32) (hout : out.length = 32) (h1 : Ret 26 #[.int .i64 9] (.agg (C .u64 ul))) (h2 : Ret 56 #[.agg (C .u8 k), .agg (C .u64 ul)] (.agg (C .u64 m))) (h3 : Ret 48 #[.agg (C .u64 m)] (.agg (C .u8 out))) :
    Ret 32 #[.agg (C .u8 k)] (.agg (C .u8 out)) := by
  refine ⟨fun w => ?_⟩
  obtain ⟨W, hW⟩ : ∃ W, W = w := ⟨_, rfl⟩
  have hH := Has.nil W
  rw [← hW]
  clear hW
  go_enter Try.func32, Try.ntmps32
  apply wp_seq_k; intro K1 hK1
  apply wp_region_lit
  refine wl_boxA rfl rfl rfl hH ?_
  clear hH; intro b1 w hH
  simp only [Act.put, List.setIfInBounds_toArray, List.set_cons_zero, List.set_cons_succ]
  refine wl_allocA rfl rfl z23 hH ?_
  clear hH; intro b2 w hH
  simp only [Act.put, List.setIfInBounds_toArray, List.set_cons_zero, List.set_cons_succ]
  go_wp2_with (first | ((first | ((with_reducible show wpList _ _ _ (_ :: _) _ _); first | refine wl_storerowC 0 rfl rfl rfl rfl hH rfl ?_ ?_ ?_ | refine wl_storerowC 1 rfl rfl rfl rfl hH rfl ?_ ?_ ?_) | ((with_reducible show wpD _ _ _ _ _ (_ :: _) _); first | refine wd_call rfl rfl (f := 26) rfl (args1 _ _) (h1) ?_ | refine wd_call rfl rfl (f := 56) rfl (args2 _ _ _) (h2) ?_ | refine wd_call rfl rfl (f := 48) rfl (args1 _ _) (h3) ?_ | refine wd_valH rfl (fun w hH => ex_loadC 0 rfl rfl hH rfl ?_) ?_ | refine wd_valH rfl (fun w hH => ex_loadC 1 rfl rfl hH rfl ?_) ?_ | refine wd_skip rfl ?_ | (refine wd_val (v := ?_) rfl ?_ ?_; rotate_left; focus (intro w; go_simp; try with_reducible rfl))) | ((with_reducible show Code.wp _ (Code.region 1 _ true) _ _ _); refine wp_draw 4 [] (by kernel_rfl) hH ?_) | ((with_reducible show wpD _ _ _ _ _ _ _); refine wd_done ?_; try dsimp only) | ((with_reducible show wpN _ _ _ _ _ _); refine wn_done ?_; try dsimp only)) <;> (first | ((with_reducible show wpList _ _ _ _ _ _); try simp only [Act.put, List.setIfInBounds_toArray, List.set_cons_zero, List.set_cons_succ]) | ((with_reducible show wpD _ _ _ _ _ _ _); try simp only [Act.put, List.setIfInBounds_toArray, List.set_cons_zero, List.set_cons_succ]) | (with_reducible show wpN _ _ _ _ _ _) | (with_reducible show Code.wp _ _ _ _ _) | (clear hH; intro w hH; (try simp only [List.nil_append, List.cons_append] at hH); (try simp only [Act.put, List.setIfInBounds_toArray, List.set_cons_zero, List.set_cons_succ] at hH ⊢)) | first | with_reducible assumption | omega | (simp only [List.length_set, List.length_replicate]; omega) | (simp; done) | (simp; omega))) | fail)
  refine ret_cell 0 rfl rfl hH rfl ?_ rfl ⟨rfl, hH.below⟩
  rw [C_size]; exact hout

/-- A secret key's public one. -/
def pubN (k : List Nat) : Nat := comeN (secN k) 9
theorem pubN_lt (k : List Nat) : pubN k < pP := comeN_lt _ _
theorem public_ex {k : List Nat} (hk : k.length = 32) (hkb : ∀ i, k.getD i 0 < 256) : Ret 32 #[vK k] (vK (key32 (pubN k))) := by
  obtain ⟨ul, lu, ru⟩ := small_ex (m := 9) (by decide)
  rw [show 9 % pP = 9 by decide +kernel] at lu
  obtain ⟨m, lm, rm⟩ := climb_ex hk hkb lu
  exact public_walk hk (key32_len _) ru rm (bytes_lim lm)

set_option maxRecDepth 100000 in
set_option maxHeartbeats 1000000 in
theorem agree_walk {k p ul m out res : List Nat} {e : Value} {b : Bool} (hk : k.length = 32) (hp : p.length = 32) (hout : out.length = 32) (h1 : Ret 22 #[.agg (C .u8 p)] (.agg (C .u64 ul))) (h2 : Ret 56 #[.agg (C .u8 k), .agg (C .u64 ul)] (.agg (C .u64 m))) (h3 : Ret 48 #[.agg (C .u64 m)] (.agg (C .u8 out)))
    (HB : Veil (decide (out = List.replicate 32 0) = b)) (hres : (if b = true then List.replicate 32 0 else out) = res) (he : (if b = true then Value.iface 81 (.int .i64 4) else .nilIface) = e) :
    Ret 30 #[.agg (C .u8 k), .agg (C .u8 p)] (.tuple #[.agg (C .u8 res), e]) := by
  cases b with
  | true =>
    rw [if_pos rfl] at hres he
    subst hres; subst he
    refine ⟨fun w => ?_⟩
    obtain ⟨W, hW⟩ : ∃ W, W = w := ⟨_, rfl⟩
    have hH := Has.nil W
    rw [← hW]
    clear hW
    go_enter Try.func30, Try.ntmps30
    apply wp_seq_k; intro K1 hK1
    apply wp_region_lit
    refine wl_boxA rfl rfl rfl hH ?_
    clear hH; intro b1 w hH
    simp only [Act.put, List.setIfInBounds_toArray, List.set_cons_zero, List.set_cons_succ]
    refine wl_boxA rfl rfl rfl hH ?_
    clear hH; intro b2 w hH
    simp only [Act.put, List.setIfInBounds_toArray, List.set_cons_zero, List.set_cons_succ]
    refine wl_allocA rfl rfl z23 hH ?_
    clear hH; intro b3 w hH
    simp only [Act.put, List.setIfInBounds_toArray, List.set_cons_zero, List.set_cons_succ]
    go_wp2_with (first | ((first | ((with_reducible show wpList _ _ _ (_ :: _) _ _); first | refine wl_val rfl (ex_eqlV rfl rfl rfl ?_ ?_ HB.out) ?_ | refine wl_val rfl (ex_mki rfl rfl) ?_ | refine wl_loadC 0 rfl rfl rfl hH rfl ?_ ?_ | refine wl_loadC 1 rfl rfl rfl hH rfl ?_ ?_ | refine wl_loadC 2 rfl rfl rfl hH rfl ?_ ?_ | refine wl_loadC 3 rfl rfl rfl hH rfl ?_ ?_ | refine wl_loadC 4 rfl rfl rfl hH rfl ?_ ?_ | refine wl_storerowC 0 rfl rfl rfl rfl hH rfl ?_ ?_ ?_ | refine wl_storerowC 1 rfl rfl rfl rfl hH rfl ?_ ?_ ?_ | refine wl_storerowC 2 rfl rfl rfl rfl hH rfl ?_ ?_ ?_ | refine wl_storerowC 3 rfl rfl rfl rfl hH rfl ?_ ?_ ?_ | refine wl_storerowC 4 rfl rfl rfl rfl hH rfl ?_ ?_ ?_ | refine wl_val rfl (ex_build rfl (b23_0)) ?_ | refine wl_val rfl (ex_build rfl (b23_1 _)) ?_ | refine wl_val rfl (ex_build rfl (b23_31 _)) ?_ | ((first | refine wl_val rfl (ex_assign rfl rfl) ?_); try simp only [Act.eval, Array.getD_eq_getD_getElem?, List.getElem?_toArray, List.getElem?_cons_succ, List.getElem?_cons_zero, Option.getD_some, Act.put, List.setIfInBounds_toArray, List.set_cons_zero, List.set_cons_succ])) | ((with_reducible show wpD _ _ _ _ _ (_ :: _) _); first | refine wd_call rfl rfl (f := 22) rfl (args1 _ _) (h1) ?_ | refine wd_call rfl rfl (f := 56) rfl (args2 _ _ _) (h2) ?_ | refine wd_call rfl rfl (f := 48) rfl (args1 _ _) (h3) ?_ | refine wd_valH rfl (fun w hH => ex_loadC 0 rfl rfl hH rfl ?_) ?_ | refine wd_valH rfl (fun w hH => ex_loadC 1 rfl rfl hH rfl ?_) ?_ | refine wd_valH rfl (fun w hH => ex_loadC 2 rfl rfl hH rfl ?_) ?_ | refine wd_valH rfl (fun w hH => ex_loadC 3 rfl rfl hH rfl ?_) ?_ | refine wd_valH rfl (fun w hH => ex_loadC 4 rfl rfl hH rfl ?_) ?_ | refine wd_skip rfl ?_ | (refine wd_val (v := ?_) rfl ?_ ?_; rotate_left; focus (intro w; go_simp; try with_reducible rfl))) | ((with_reducible show Code.wp _ (Code.region 1 _ true) _ _ _); refine wp_draw 5 [(C .u8 (List.replicate 32 0), 23)] (by kernel_rfl) hH ?_) | ((refine wn_alloc rfl rfl z23 ?_; intro bn; try dsimp only)) | ((with_reducible show wpD _ _ _ _ _ _ _); refine wd_done ?_; try dsimp only) | ((with_reducible show wpN _ _ _ _ _ _); refine wn_done ?_; try dsimp only)) <;> (first | ((with_reducible show wpList _ _ _ _ _ _); try simp only [Act.put, List.setIfInBounds_toArray, List.set_cons_zero, List.set_cons_succ]) | ((with_reducible show wpD _ _ _ _ _ _ _); try simp only [Act.put, List.setIfInBounds_toArray, List.set_cons_zero, List.set_cons_succ]) | (with_reducible show wpN _ _ _ _ _ _) | (with_reducible show Code.wp _ _ _ _ _) | (clear hH; intro w hH; (try simp only [List.nil_append, List.cons_append] at hH); (try simp only [Act.put, List.setIfInBounds_toArray, List.set_cons_zero, List.set_cons_succ] at hH ⊢)) | first | with_reducible assumption | omega | (simp only [List.length_set, List.length_replicate]; omega) | (simp; done) | (simp; omega))) | fail)
    refine ret_cell2 1 rfl rfl hH rfl ?_ rfl rfl ⟨rfl, hH.below⟩
    rw [C_size]; rfl
  | false =>
    rw [if_neg (by simp)] at hres he
    subst hres; subst he
    refine ⟨fun w => ?_⟩
    obtain ⟨W, hW⟩ : ∃ W, W = w := ⟨_, rfl⟩
    have hH := Has.nil W
    rw [← hW]
    clear hW
    go_enter Try.func30, Try.ntmps30
    apply wp_seq_k; intro K1 hK1
    apply wp_region_lit
    refine wl_boxA rfl rfl rfl hH ?_
    clear hH; intro b1 w hH
    simp only [Act.put, List.setIfInBounds_toArray, List.set_cons_zero, List.set_cons_succ]
    refine wl_boxA rfl rfl rfl hH ?_
    clear hH; intro b2 w hH
    simp only [Act.put, List.setIfInBounds_toArray, List.set_cons_zero, List.set_cons_succ]
    refine wl_allocA rfl rfl z23 hH ?_
    clear hH; intro b3 w hH
    simp only [Act.put, List.setIfInBounds_toArray, List.set_cons_zero, List.set_cons_succ]
    go_wp2_with (first | ((first | ((with_reducible show wpList _ _ _ (_ :: _) _ _); first | refine wl_val rfl (ex_eqlV rfl rfl rfl ?_ ?_ HB.out) ?_ | refine wl_loadC 0 rfl rfl rfl hH rfl ?_ ?_ | refine wl_loadC 1 rfl rfl rfl hH rfl ?_ ?_ | refine wl_loadC 2 rfl rfl rfl hH rfl ?_ ?_ | refine wl_loadC 3 rfl rfl rfl hH rfl ?_ ?_ | refine wl_loadC 4 rfl rfl rfl hH rfl ?_ ?_ | refine wl_storerowC 0 rfl rfl rfl rfl hH rfl ?_ ?_ ?_ | refine wl_storerowC 1 rfl rfl rfl rfl hH rfl ?_ ?_ ?_ | refine wl_storerowC 2 rfl rfl rfl rfl hH rfl ?_ ?_ ?_ | refine wl_storerowC 3 rfl rfl rfl rfl hH rfl ?_ ?_ ?_ | refine wl_storerowC 4 rfl rfl rfl rfl hH rfl ?_ ?_ ?_ | refine wl_val rfl (ex_build rfl (b23_0)) ?_ | refine wl_val rfl (ex_build rfl (b23_1 _)) ?_ | refine wl_val rfl (ex_build rfl (b23_31 _)) ?_ | ((first | refine wl_val rfl (ex_assign rfl rfl) ?_); try simp only [Act.eval, Array.getD_eq_getD_getElem?, List.getElem?_toArray, List.getElem?_cons_succ, List.getElem?_cons_zero, Option.getD_some, Act.put, List.setIfInBounds_toArray, List.set_cons_zero, List.set_cons_succ])) | ((with_reducible show wpD _ _ _ _ _ (_ :: _) _); first | refine wd_call rfl rfl (f := 22) rfl (args1 _ _) (h1) ?_ | refine wd_call rfl rfl (f := 56) rfl (args2 _ _ _) (h2) ?_ | refine wd_call rfl rfl (f := 48) rfl (args1 _ _) (h3) ?_ | refine wd_valH rfl (fun w hH => ex_loadC 0 rfl rfl hH rfl ?_) ?_ | refine wd_valH rfl (fun w hH => ex_loadC 1 rfl rfl hH rfl ?_) ?_ | refine wd_valH rfl (fun w hH => ex_loadC 2 rfl rfl hH rfl ?_) ?_ | refine wd_valH rfl (fun w hH => ex_loadC 3 rfl rfl hH rfl ?_) ?_ | refine wd_valH rfl (fun w hH => ex_loadC 4 rfl rfl hH rfl ?_) ?_ | refine wd_skip rfl ?_ | (refine wd_val (v := ?_) rfl ?_ ?_; rotate_left; focus (intro w; go_simp; try with_reducible rfl))) | ((with_reducible show Code.wp _ (Code.region 1 _ true) _ _ _); refine wp_draw 5 [(C .u8 (List.replicate 32 0), 23)] (by kernel_rfl) hH ?_) | ((refine wn_alloc rfl rfl z23 ?_; intro bn; try dsimp only)) | ((with_reducible show wpD _ _ _ _ _ _ _); refine wd_done ?_; try dsimp only) | ((with_reducible show wpN _ _ _ _ _ _); refine wn_done ?_; try dsimp only)) <;> (first | ((with_reducible show wpList _ _ _ _ _ _); try simp only [Act.put, List.setIfInBounds_toArray, List.set_cons_zero, List.set_cons_succ]) | ((with_reducible show wpD _ _ _ _ _ _ _); try simp only [Act.put, List.setIfInBounds_toArray, List.set_cons_zero, List.set_cons_succ]) | (with_reducible show wpN _ _ _ _ _ _) | (with_reducible show Code.wp _ _ _ _ _) | (clear hH; intro w hH; (try simp only [List.nil_append, List.cons_append] at hH); (try simp only [Act.put, List.setIfInBounds_toArray, List.set_cons_zero, List.set_cons_succ] at hH ⊢)) | first | with_reducible assumption | omega | (simp only [List.length_set, List.length_replicate]; omega) | (simp; done) | (simp; omega))) | fail)
    refine ret_cell2 1 rfl rfl hH rfl ?_ rfl rfl ⟨rfl, hH.below⟩
    rw [C_size]; exact hout

theorem key32_zero : key32 0 = List.replicate 32 0 := by decide +kernel
theorem key32_z {n : Nat} (h : n < pP) : decide (key32 n = List.replicate 32 0) = decide (n = 0) := by
  rw [← key32_zero]
  exact key32_eq h pP_pos
/-- The errors: none, out of range. -/
def errV (n : Nat) : Value := if n = 0 then .iface 81 (.int .i64 4) else .nilIface
def agrN (k p : List Nat) : Nat := comeN (secN k) (keyN p)
theorem agrN_lt (k p : List Nat) : agrN k p < pP := comeN_lt _ _
theorem agree_ex {k p : List Nat} (hk : k.length = 32) (hkb : ∀ i, k.getD i 0 < 256) (hp : p.length = 32) (hpb : ∀ i, p.getD i 0 < 256) :
    Ret 30 #[vK k, vK p] (.tuple #[vK (key32 (agrN k p)), errV (agrN k p)]) := by
  obtain ⟨ul, lu, ru⟩ := from_ex hp hpb
  obtain ⟨m, lm, rm⟩ := climb_ex hk hkb lu
  have hz := key32_z (agrN_lt k p)
  refine agree_walk hk hp (key32_len _) ru rm (bytes_lim lm) ⟨hz⟩ ?_ ?_
  · by_cases h : agrN k p = 0
    · simp only [h, decide_true, if_true, key32_zero]
    · simp only [h, decide_false, Bool.false_eq_true, if_false]; rfl
  · unfold errV
    by_cases h : agrN k p = 0
    · simp only [h, decide_true, if_true]
    · simp only [h, decide_false, Bool.false_eq_true, if_false]

set_option maxRecDepth 100000 in
set_option maxHeartbeats 1000000 in
theorem new_walk {k p : List Nat} (hk : k.length = 32) (hp : p.length = 32) (h1 : Ret 32 #[.agg (C .u8 k)] (.agg (C .u8 p))) : Ret 46 #[.agg (C .u8 k)] (.agg (C .u8 (k ++ p))) := by
  refine ⟨fun w => ?_⟩
  obtain ⟨W, hW⟩ : ∃ W, W = w := ⟨_, rfl⟩
  have hH := Has.nil W
  rw [← hW]
  clear hW
  go_enter Try.func46, Try.ntmps46
  apply wp_seq_k; intro K1 hK1
  apply wp_region_lit
  refine wl_boxA rfl rfl rfl hH ?_
  clear hH; intro b1 w hH
  simp only [Act.put, List.setIfInBounds_toArray, List.set_cons_zero, List.set_cons_succ]
  refine wl_allocA rfl rfl z63 hH ?_
  clear hH; intro b2 w hH
  simp only [Act.put, List.setIfInBounds_toArray, List.set_cons_zero, List.set_cons_succ]
  go_wp2_with (first | ((first | ((with_reducible show wpList _ _ _ (_ :: _) _ _); first | refine wl_storerowC 0 rfl rfl rfl rfl hH rfl ?_ ?_ ?_ | refine wl_storerowC 1 rfl rfl rfl rfl hH rfl ?_ ?_ ?_) | ((with_reducible show wpD _ _ _ _ _ (_ :: _) _); first | refine wd_call rfl rfl (f := 32) rfl (args1 _ _) (h1) ?_ | refine wd_val rfl (ex_build rfl (b63_2 ?_ ?_)) ?_ | refine wd_valH rfl (fun w hH => ex_loadC 0 rfl rfl hH rfl ?_) ?_ | refine wd_valH rfl (fun w hH => ex_loadC 1 rfl rfl hH rfl ?_) ?_ | refine wd_skip rfl ?_ | (refine wd_val (v := ?_) rfl ?_ ?_; rotate_left; focus (intro w; go_simp; try with_reducible rfl))) | ((with_reducible show Code.wp _ (Code.region 1 _ true) _ _ _); refine wp_draw 4 [] (by kernel_rfl) hH ?_) | ((with_reducible show wpD _ _ _ _ _ _ _); refine wd_done ?_; try dsimp only) | ((with_reducible show wpN _ _ _ _ _ _); refine wn_done ?_; try dsimp only)) <;> (first | ((with_reducible show wpList _ _ _ _ _ _); try simp only [Act.put, List.setIfInBounds_toArray, List.set_cons_zero, List.set_cons_succ]) | ((with_reducible show wpD _ _ _ _ _ _ _); try simp only [Act.put, List.setIfInBounds_toArray, List.set_cons_zero, List.set_cons_succ]) | (with_reducible show wpN _ _ _ _ _ _) | (with_reducible show Code.wp _ _ _ _ _) | (clear hH; intro w hH; (try simp only [List.nil_append, List.cons_append] at hH); (try simp only [Act.put, List.setIfInBounds_toArray, List.set_cons_zero, List.set_cons_succ] at hH ⊢)) | first | with_reducible assumption | omega | (simp only [List.length_set, List.length_replicate]; omega) | (simp; done) | (simp; omega))) | fail)
  refine ret_cell 0 rfl rfl hH rfl ?_ rfl ⟨rfl, hH.below⟩
  rw [C_size]; simp [hk, hp]

theorem run_tA (v : Value) (w : World) : (Instr.typeAssert (.iface 81 v) 43 81 true).run Try.prog w = .ok (.tuple #[v, .bool true]) w := by
  unfold Instr.typeAssert
  simp [Sem.run_bind, run_underlying Try.underlying81, Result.andThen]
attribute [local go_sem] run_tA

set_option maxRecDepth 100000 in
set_option maxHeartbeats 1000000 in
theorem num_nil : Ret 31 #[.nilIface] (.int .i64 0) := by
  refine ⟨fun w => ?_⟩
  go_enter Try.func31, Try.ntmps31
  go_wp2
  go_ret
  exact ⟨rfl, Below.refl _ _⟩
set_option maxRecDepth 100000 in
set_option maxHeartbeats 1000000 in
theorem num_err : Ret 31 #[.iface 81 (.int .i64 4)] (.int .i64 4) := by
  refine ⟨fun w => ?_⟩
  go_enter Try.func31, Try.ntmps31
  go_wp2
  go_ret
  exact ⟨rfl, Below.refl _ _⟩
end Go.Proofs.Ytmbbdblmengdhaa
