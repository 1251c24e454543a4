/- Walks of the laws of the ladder: the fixed fact, LadderPublic, LadderAgrees, LadderSame, LadderBoth, LadderThree. -/
import Derived.Test.YtmbbdblmengdhaaR11
set_option linter.unusedSimpArgs false
set_option linter.unusedVariables false
namespace Go.Proofs.Ytmbbdblmengdhaa
open Go.RowKit

/-! ### The fixed fact -/
def oneKey : List Nat := 1 :: List.replicate 31 0
theorem sec_one : secN oneKey = 28948022309329048855892746252171976963317496166410141009864396001978282409984 := by decide +kernel
theorem lad_one : (ladN 9 (bitsOf 28948022309329048855892746252171976963317496166410141009864396001978282409984 256) 256).x0 = 12099023135633444798933130997617703735873617238458909438435642022737006171704 ∧
    (ladN 9 (bitsOf 28948022309329048855892746252171976963317496166410141009864396001978282409984 256) 256).z0 = 42614822502844274454526147865574411737951644976155362733167048755680582318536 := by decide +kernel
theorem powV_of_pm {a e v : Nat} (he : e < 2 ^ 256) (h : pm pP 256 a e 1 = v) : powV a e = v := by
  unfold powV
  exact pow_of_pm 256 he (by decide +kernel) h
theorem come_of {c u x z v o : Nat} (hx : (ladN u (bitsOf c 256) 256).x0 = x) (hz : (ladN u (bitsOf c 256) 256).z0 = z) (h : powV z (pP - 2) = v) (ho : mulN x v = o) : comeN c u = o := by
  subst hx; subst hz; subst h; subst ho
  unfold comeN outN mulN powV
  rfl
theorem pub_one : pubN oneKey = 52573937849532372069814888178136277301931757964231753054399601207743438775599 := by
  unfold pubN
  rw [sec_one]
  exact come_of lad_one.1 lad_one.2 (powV_of_pm (v := 48310091799393094219847496989339816929253171343278297603640011439350724727062) (by decide +kernel) (by decide +kernel)) (by decide +kernel)
theorem pub_one_0 : (key32 (pubN oneKey)).getD 0 0 = 47 := by rw [pub_one]; decide +kernel
theorem pub_one_1 : (key32 (pubN oneKey)).getD 1 0 = 229 := by rw [pub_one]; decide +kernel
theorem pub_one_31 : (key32 (pubN oneKey)).getD 31 0 = 116 := by rw [pub_one]; decide +kernel
theorem oneKey_dig : ∀ i, oneKey.getD i 0 < 256 := by
  intro i
  by_cases h : i < 32
  · exact (by decide +kernel : ∀ i, i < 32 → oneKey.getD i 0 < 256) i h
  · rw [List.getD_eq_getElem?_getD, List.getElem?_eq_none (by show 32 ≤ i; omega)]
    decide

set_option maxRecDepth 100000 in
set_option maxHeartbeats 1000000 in
theorem alive6_walk {k : List Nat} {x0 x1 x31 : Nat} (hk : k.length = 32) (h1 : Ret 32 #[.agg (C .u8 (1 :: List.replicate 31 0))] (.agg (C .u8 k))) (H0 : Veil (k.getD 0 0 = x0)) (H1 : Veil (k.getD 1 0 = x1)) (H31 : Veil (k.getD 31 0 = x31))
    (E0 : Veil (decide (x0 = 47) = true)) (E1 : Veil (decide (x1 = 229) = true)) (E31 : Veil (decide (x31 = 116) = true)) : Ret 29 #[] (.bool true) := by
  refine ⟨fun w => ?_⟩
  obtain ⟨W, hW⟩ : ∃ W, W = w := ⟨_, rfl⟩
  have hH := Has.nil W
  rw [← hW]
  clear hW
  go_enter Try.func29, Try.ntmps29
  apply wp_seq_k; intro K1 hK1
  apply wp_region_lit
  go_wp2_with (first | ((first | ((with_reducible show wpList _ _ _ (⟨_, _, _, _, _, some _⟩ :: _) _ _); refine wl_want rfl ?_) | ((with_reducible show wpList _ _ _ (_ :: _) _ _); first | (refine wl_allocA rfl rfl z23 hH ?_; clear hH; intro b1 w hH) | refine wl_callc rfl rfl (f := 32) rfl (args1 _ _) (h1) hH ?_ | refine wl_load 0 rfl rfl rfl hH rfl (C_get' ?_ H0.out) ?_ | refine wl_load 0 rfl rfl rfl hH rfl (C_get' ?_ H1.out) ?_ | refine wl_load 0 rfl rfl rfl hH rfl (C_get' ?_ H31.out) ?_ | refine wl_val rfl (ex_eqV rfl rfl rfl E0.out) ?_ | refine wl_val rfl (ex_eqV rfl rfl rfl E1.out) ?_ | refine wl_val rfl (ex_eqV rfl rfl rfl E31.out) ?_ | refine wl_load 0 rfl rfl rfl hH rfl (C_get ?_) ?_ | refine wl_storerowC 0 rfl rfl rfl rfl hH rfl ?_ ?_ ?_ | refine wl_val rfl (ex_build rfl (b23_0)) ?_ | refine wl_val rfl (ex_build rfl (b23_1 _)) ?_ | refine wl_val rfl (ex_build rfl (b23_31 _)) ?_ | refine wl_val rfl (ex_ixaddr1 rfl rfl rfl ?_) ?_ | ((first | refine wl_val rfl (ex_move rfl rfl) ?_ | refine wl_val rfl (ex_assign rfl rfl) ?_); try simp only [Act.eval, Array.getD_eq_getD_getElem?, List.getElem?_toArray, List.getElem?_cons_succ, List.getElem?_cons_zero, Option.getD_some, Act.put, List.setIfInBounds_toArray, List.set_cons_zero, List.set_cons_succ]))) <;> (first | ((with_reducible show wpList _ _ _ _ _ _); try simp only [Act.put, List.setIfInBounds_toArray, List.set_cons_zero, List.set_cons_succ]) | ((with_reducible show wpD _ _ _ _ _ _ _); try simp only [Act.put, List.setIfInBounds_toArray, List.set_cons_zero, List.set_cons_succ]) | (with_reducible show wpN _ _ _ _ _ _) | (with_reducible show Code.wp _ _ _ _ _) | (clear hH; intro w hH; (try simp only [List.nil_append, List.cons_append] at hH); (try simp only [Act.put, List.setIfInBounds_toArray, List.set_cons_zero, List.set_cons_succ] at hH ⊢)) | first | with_reducible assumption | omega | (simp only [List.length_set, List.length_replicate]; omega) | (simp; done) | (simp; omega))) | fail)
  go_ret
  exact ⟨rfl, hH.below⟩
theorem alive6_any : Ret 29 #[] (.bool true) :=
  alive6_walk (key32_len _) (public_ex (k := oneKey) rfl oneKey_dig) ⟨pub_one_0⟩ ⟨pub_one_1⟩ ⟨pub_one_31⟩ ⟨rfl⟩ ⟨rfl⟩ ⟨rfl⟩

/-! ### Pairs compared -/
theorem run_isAgg23 (w : World) : (isAgg 23).run Try.prog w = .ok true w := by
  unfold isAgg
  rw [Sem.run_bind, run_underlying Try.underlying23 w]
  rfl
theorem run_sizeOf23 (w : World) : (sizeOf 23).run Try.prog w = .ok 32 w := by kernel_rfl
theorem part_key {l m : List Nat} (hl : l.length = 32) (hm : m.length = 32) (w : World) : (part 23 (C .u8 (l ++ m)) 0).run Try.prog w = .ok (.agg (C .u8 l)) w ∧ (part 23 (C .u8 (l ++ m)) 32).run Try.prog w = .ok (.agg (C .u8 m)) w := by
  unfold part
  simp only [Sem.run_bind, run_isAgg23, Result.andThen_ok, if_true, run_sizeOf23, Sem.run_pure, C_extract]
  refine ⟨?_, ?_⟩
  · rw [List.drop_zero, List.take_left' hl]
  · rw [List.drop_left' hl, List.take_of_length_le (by omega)]
theorem eq_key (d : Nat) (l : List Nat) (hl : l.length = 32) (w : World) : (Op.equalIn (d + 1 + 1) 23 (.agg (C .u8 l)) (.agg (C .u8 l))).run Try.prog w = .ok true w := by
  have ht : ArrI 23 .u8 32 := inferInstance
  obtain ⟨e, i, hu, hi, hc, hue, he⟩ := ht.arr
  have h2 := run_equalIn_array (P := Try.prog) (w := w) (d + 1) (C .u8 l) (C .u8 l) hu hi
  rw [hc] at h2
  have h3 := run_eqItems_C d hue w (l := l) (m := l) (List.range 32) (fun j hj => by have := List.mem_range.1 hj; omega)
  rw [h2, h3, all_eq_decide hl hl]
  simp
theorem eq_fieldsD (D : Nat) {cs a b : Array Value} {f g : Field} (f1 : f.name ≠ "_") (f2 : f.type = 23) (f3 : f.offset = 0) (g1 : g.name ≠ "_") (g2 : g.type = 23) (g3 : g.offset = 32) (w : World)
    (p1 : (part 23 cs 0).run Try.prog w = .ok (.agg a) w) (p2 : (part 23 cs 32).run Try.prog w = .ok (.agg b) w) (k1 : (Op.equalIn D 23 (.agg a) (.agg a)).run Try.prog w = .ok true w) (k2 : (Op.equalIn D 23 (.agg b) (.agg b)).run Try.prog w = .ok true w) :
    (Op.eqFields D cs cs [f, g]).run Try.prog w = .ok true w := by
  rw [Op.eqFields, if_pos f1, f2, f3, Op.eqFields, if_pos g1, g2, g3, Op.eqFields]
  simp only [Sem.run_bind, p1, p2, k1, k2, Result.andThen_ok, Bool.not_true, Bool.false_eq_true, if_false, Sem.run_pure]
theorem eq_fields (d : Nat) {l m : List Nat} (hl : l.length = 32) (hm : m.length = 32) {f g : Field} (f1 : f.name ≠ "_") (f2 : f.type = 23) (f3 : f.offset = 0) (g1 : g.name ≠ "_") (g2 : g.type = 23) (g3 : g.offset = 32) (w : World) :
    (Op.eqFields (d + 1 + 1) (C .u8 (l ++ m)) (C .u8 (l ++ m)) [f, g]).run Try.prog w = .ok true w :=
  eq_fieldsD _ f1 f2 f3 g1 g2 g3 w (part_key hl hm w).1 (part_key hl hm w).2 (eq_key d l hl w) (eq_key d m hm w)
theorem fields63 : ∃ f g : Field, (Try.prog.fieldsOf 63).toList = [f, g] ∧ Try.prog.underlying 63 = some (.struct (Try.prog.fieldsOf 63)) ∧ f.name ≠ "_" ∧ f.type = 23 ∧ f.offset = 0 ∧ g.name ≠ "_" ∧ g.type = 23 ∧ g.offset = 32 := by
  have e : Try.prog.fieldsOf 63 = #[{ name := "Secret", type := 23, offset := 0, embedded := false, tag := "", pkgPath := "", byteOffset := 0 }, { name := "Public", type := 23, offset := 32, embedded := false, tag := "", pkgPath := "", byteOffset := 32 }] := by
    unfold Program.fieldsOf
    rw [Try.underlying63]
  rw [e]
  exact ⟨_, _, rfl, Try.underlying63, by simp, rfl, rfl, by simp, rfl, rfl⟩
theorem eq63 (d : Nat) {l m : List Nat} (hl : l.length = 32) (hm : m.length = 32) (w : World) : (Op.equalIn (d + 1 + 1 + 1) 63 (.agg (C .u8 (l ++ m))) (.agg (C .u8 (l ++ m)))).run Try.prog w = .ok true w := by
  obtain ⟨f, g, hf, hu, f1, f2, f3, g1, g2, g3⟩ := fields63
  rw [run_equalIn_struct w (d + 1 + 1) 63 _ _ hu (by kernel_rfl), hf]
  exact eq_fields d hl hm f1 f2 f3 g1 g2 g3 w
theorem ex_eq63 {a : Act} {o : Oper} {yt : TypeId} {x y : Operand} (ho : o.op = .binOp .eql 63 x y yt) {l m : List Nat} (hx : a.eval x = .agg (C .u8 (l ++ m))) (hy : a.eval y = .agg (C .u8 (l ++ m))) (hl : l.length = 32) (hm : m.length = 32) (w : World) :
    (execOp a.eval o).run Try.prog w = .ok (.value (.bool true)) w := by
  have hg := run_eqGuard_agg (P := Try.prog) (w := w) .eql 63 x y (C .u8 (l ++ m)) (C .u8 (l ++ m)) (by kernel_rfl)
  have h1 := run_eql_struct (P := Try.prog) (w := w) 63 (C .u8 (l ++ m)) (C .u8 (l ++ m))
  have h2 := eq63 9997 hl hm w
  unfold execOp
  simp only [ho, hx, hy, Sem.run_bind, hg, Result.andThen_ok, h1, h2, Sem.run_pure]
end Go.Proofs.Ytmbbdblmengdhaa

/- Walks of the laws LadderPublic, LadderAgrees, LadderBoth, LadderThree, LadderSame. -/
namespace Go.Proofs.Ytmbbdblmengdhaa
open Go.RowKit

set_option maxRecDepth 100000 in
set_option maxHeartbeats 1000000 in
theorem lpublic_walk {s P : List Nat} (hs : s.length = 32) (hP : P.length = 32) (h0 : Ret 29 #[] (.bool true)) (h1 : Ret 45 #[.agg (C .u8 s)] (.agg (C .u8 P))) (h2 : Ret 32 #[.agg (C .u8 s)] (.agg (C .u8 P))) (h3 : Ret 46 #[.agg (C .u8 s)] (.agg (C .u8 (s ++ P)))) :
    Ret 15 #[.agg (C .u8 s)] (.bool true) := by
  have HB : Veil (decide (P = P) = true) := ⟨by simp⟩
  refine ⟨fun w => ?_⟩
  obtain ⟨W, hW⟩ : ∃ W, W = w := ⟨_, rfl⟩
  have hH := Has.nil W
  rw [← hW]
  clear hW
  go_enter Try.func15, Try.ntmps15
  apply wp_seq_k; intro K1 hK1
  apply wp_region_lit
  refine wl_boxA rfl rfl rfl hH ?_
  clear hH; intro b1 w hH
  simp only [Act.put, List.setIfInBounds_toArray, List.set_cons_zero, List.set_cons_succ]
  go_wp2_with (first | ((first | ((with_reducible show wpList _ _ _ (_ :: _) _ _); first | (refine wl_allocA rfl rfl z23 hH ?_; clear hH; intro b2 w hH) | refine wl_callc rfl rfl (f := 45) rfl (args1 _ _) (h1) hH ?_ | refine wl_loadC 0 rfl rfl rfl hH rfl ?_ ?_ | refine wl_loadC 1 rfl rfl rfl hH rfl ?_ ?_ | refine wl_storerowC 0 rfl rfl rfl rfl hH rfl ?_ ?_ ?_ | refine wl_storerowC 1 rfl rfl rfl rfl hH rfl ?_ ?_ ?_ | ((first | refine wl_val rfl (ex_assign rfl rfl) ?_); try simp only [Act.eval, Array.getD_eq_getD_getElem?, List.getElem?_toArray, List.getElem?_cons_succ, List.getElem?_cons_zero, Option.getD_some, Act.put, List.setIfInBounds_toArray, List.set_cons_zero, List.set_cons_succ])) | ((with_reducible show wpD _ _ _ _ _ (_ :: _) _); first | refine wd_call rfl rfl (f := 29) rfl (args0 _) (h0) ?_ | refine wd_call rfl rfl (f := 32) rfl (args1 _ _) (h2) ?_ | refine wd_call rfl rfl (f := 46) rfl (args1 _ _) (h3) ?_ | refine wd_val rfl (ex_eqlV rfl rfl rfl ?_ ?_ HB.out) ?_ | refine wd_val rfl (ex_eq63 rfl rfl rfl ?_ ?_) ?_ | refine wd_val rfl (ex_build rfl (b63_2 ?_ ?_)) ?_ | ((first | refine wd_val rfl (ex_move rfl rfl) ?_ | refine wd_val rfl (ex_assign rfl rfl) ?_); try simp only [Act.eval, Array.getD_eq_getD_getElem?, List.getElem?_toArray, List.getElem?_cons_succ, List.getElem?_cons_zero, Option.getD_some, Act.put, List.setIfInBounds_toArray, List.set_cons_zero, List.set_cons_succ]) | refine wd_valH rfl (fun w hH => ex_loadC 0 rfl rfl hH rfl ?_) ?_ | refine wd_valH rfl (fun w hH => ex_loadC 1 rfl rfl hH rfl ?_) ?_ | refine wd_skip rfl ?_ | (refine wd_val (v := ?_) rfl ?_ ?_; rotate_left; focus (intro w; go_simp; try with_reducible rfl))) | ((with_reducible show Code.wp _ (Code.region 2 _ true) _ _ _); refine wp_draw 16 [] (by kernel_rfl) hH ?_) | ((with_reducible show wpD _ _ _ _ _ _ _); refine wd_done ?_; try dsimp only) | ((with_reducible show wpN _ _ _ _ _ _); refine wn_done ?_; try dsimp only)) <;> (first | ((with_reducible show wpList _ _ _ _ _ _); try simp only [Act.put, List.setIfInBounds_toArray, List.set_cons_zero, List.set_cons_succ]) | ((with_reducible show wpD _ _ _ _ _ _ _); try simp only [Act.put, List.setIfInBounds_toArray, List.set_cons_zero, List.set_cons_succ]) | (with_reducible show wpN _ _ _ _ _ _) | (with_reducible show Code.wp _ _ _ _ _) | (clear hH; intro w hH; (try simp only [List.nil_append, List.cons_append] at hH); (try simp only [Act.put, List.setIfInBounds_toArray, List.set_cons_zero, List.set_cons_succ] at hH ⊢)) | first | with_reducible assumption | omega | (simp only [List.length_set, List.length_replicate]; omega) | (simp; done) | (simp; omega))) | fail)
  go_ret
  exact ⟨rfl, hH.below⟩
theorem law_lpublic {l : List Nat} (hl : l.length = 32) (hb : ∀ i, l.getD i 0 < 256) : Ret 15 #[.agg (C .u8 l)] (.bool true) :=
  lpublic_walk hl (key32_len _) alive6_any (rpublic_ex hl hb) (public_ex hl hb) (new_walk hl (key32_len _) (public_ex hl hb))

set_option maxRecDepth 100000 in
set_option maxHeartbeats 1000000 in
theorem agrees_walk {s p O : List Nat} {e : Value} {n : Nat} (hs : s.length = 32) (hp : p.length = 32) (hO : O.length = 32) (h0 : Ret 29 #[] (.bool true)) (h1 : Ret 30 #[.agg (C .u8 s), .agg (C .u8 p)] (.tuple #[.agg (C .u8 O), e]))
    (h2 : Ret 47 #[.agg (C .u8 s), .agg (C .u8 p)] (.tuple #[.agg (C .u8 O), .int .i64 (n : Nat)])) (h3 : Ret 31 #[e] (.int .i64 (n : Nat))) : Ret 16 #[.agg (C .u8 s), .agg (C .u8 p)] (.bool true) := by
  have HB : Veil (decide (O = O) = true) := ⟨by simp⟩
  have HN : Veil (decide (n = n) = true) := ⟨by simp⟩
  refine ⟨fun w => ?_⟩
  obtain ⟨W, hW⟩ : ∃ W, W = w := ⟨_, rfl⟩
  have hH := Has.nil W
  rw [← hW]
  clear hW
  go_enter Try.func16, Try.ntmps16
  apply wp_seq_k; intro K1 hK1
  apply wp_region_lit
  refine wl_boxA rfl rfl rfl hH ?_
  clear hH; intro b1 w hH
  simp only [Act.put, List.setIfInBounds_toArray, List.set_cons_zero, List.set_cons_succ]
  refine wl_boxA rfl rfl rfl hH ?_
  clear hH; intro b2 w hH
  simp only [Act.put, List.setIfInBounds_toArray, List.set_cons_zero, List.set_cons_succ]
  go_wp2_with (first | ((first | ((with_reducible show wpList _ _ _ (⟨_, _, _, _, _, some _⟩ :: _) _ _); refine wl_want rfl ?_) | ((with_reducible show wpList _ _ _ (_ :: _) _ _); first | refine wl_callc rfl rfl (f := 29) rfl (args0 _) (h0) hH ?_ | (refine wl_allocA rfl rfl z23 hH ?_; clear hH; (first | (guard_hyp b3; intro b4 w hH) | intro b3 w hH)) | refine wl_callc rfl rfl (f := 30) rfl (args2 _ _ _) (h1) hH ?_ | refine wl_callc rfl rfl (f := 47) rfl (args2 _ _ _) (h2) hH ?_ | refine wl_callc rfl rfl (f := 31) rfl (args1 _ _) (h3) hH ?_ | refine wl_val rfl (ex_eqlV rfl rfl rfl ?_ ?_ HB.out) ?_ | refine wl_val rfl (ex_eqV rfl rfl rfl HN.out) ?_ | refine wl_val rfl (ex_not rfl rfl) ?_ | refine wl_loadC 0 rfl rfl rfl hH rfl ?_ ?_ | refine wl_loadC 1 rfl rfl rfl hH rfl ?_ ?_ | refine wl_loadC 2 rfl rfl rfl hH rfl ?_ ?_ | refine wl_loadC 3 rfl rfl rfl hH rfl ?_ ?_ | refine wl_storerowC 0 rfl rfl rfl rfl hH rfl ?_ ?_ ?_ | refine wl_storerowC 1 rfl rfl rfl rfl hH rfl ?_ ?_ ?_ | refine wl_storerowC 2 rfl rfl rfl rfl hH rfl ?_ ?_ ?_ | refine wl_storerowC 3 rfl rfl rfl rfl hH rfl ?_ ?_ ?_ | ((first | refine wl_val rfl (ex_move rfl rfl) ?_ | refine wl_val rfl (ex_assign rfl rfl) ?_ | refine wl_val rfl (ex_extract rfl rfl rfl) ?_); try simp only [Act.eval, Array.getD_eq_getD_getElem?, List.getElem?_toArray, List.getElem?_cons_succ, List.getElem?_cons_zero, Option.getD_some, Act.put, List.setIfInBounds_toArray, List.set_cons_zero, List.set_cons_succ]))) <;> (first | ((with_reducible show wpList _ _ _ _ _ _); try simp only [Act.put, List.setIfInBounds_toArray, List.set_cons_zero, List.set_cons_succ]) | ((with_reducible show wpD _ _ _ _ _ _ _); try simp only [Act.put, List.setIfInBounds_toArray, List.set_cons_zero, List.set_cons_succ]) | (with_reducible show wpN _ _ _ _ _ _) | (with_reducible show Code.wp _ _ _ _ _) | (clear hH; intro w hH; (try simp only [List.nil_append, List.cons_append] at hH); (try simp only [Act.put, List.setIfInBounds_toArray, List.set_cons_zero, List.set_cons_succ] at hH ⊢)) | first | with_reducible assumption | omega | (simp only [List.length_set, List.length_replicate]; omega) | (simp; done) | (simp; omega))) | fail)
  go_ret
  exact ⟨rfl, hH.below⟩
theorem law_agrees {l m : List Nat} (hl : l.length = 32) (hlb : ∀ i, l.getD i 0 < 256) (hm : m.length = 32) (hmb : ∀ i, m.getD i 0 < 256) : Ret 16 #[.agg (C .u8 l), .agg (C .u8 m)] (.bool true) :=
  agrees_walk hl hm (key32_len _) alive6_any (agree_ex hl hlb hm hmb) (ragree_ex hl hlb hm hmb) (num_ex _)

/-! ### Two and three agree -/
theorem keyN_key32 {n : Nat} (h : n < pP) : keyN (key32 n) = n := by
  unfold keyN
  rw [valN_key32 h, Nat.mod_eq_of_lt (Nat.lt_trans h (by decide +kernel)), Nat.mod_eq_of_lt h]
theorem agrN_key {k : List Nat} {n : Nat} (h : n < pP) : agrN k (key32 n) = comeN (secN k) n := by rw [agrN, keyN_key32 h]
theorem agree_num {k : List Nat} {n : Nat} (hk : k.length = 32) (hkb : ∀ i, k.getD i 0 < 256) (hn : n < pP) (h0 : comeN (secN k) n ≠ 0) :
    Ret 30 #[vK k, vK (key32 n)] (.tuple #[vK (key32 (comeN (secN k) n)), .nilIface]) := by
  have h := agree_ex hk hkb (key32_len n) (key32_dig n)
  rw [agrN_key hn, errV, if_neg h0] at h
  exact h

set_option maxRecDepth 100000 in
set_option maxHeartbeats 1000000 in
theorem both_walk {a b P Q X : List Nat} (ha : a.length = 32) (hb : b.length = 32) (hP : P.length = 32) (hQ : Q.length = 32) (hX : X.length = 32) (h0 : Ret 29 #[] (.bool true)) (h1 : Ret 32 #[.agg (C .u8 b)] (.agg (C .u8 P))) (h2 : Ret 30 #[.agg (C .u8 a), .agg (C .u8 P)] (.tuple #[.agg (C .u8 X), .nilIface]))
    (h3 : Ret 32 #[.agg (C .u8 a)] (.agg (C .u8 Q))) (h4 : Ret 30 #[.agg (C .u8 b), .agg (C .u8 Q)] (.tuple #[.agg (C .u8 X), .nilIface])) : Ret 17 #[.agg (C .u8 a), .agg (C .u8 b)] (.bool true) := by
  have HB : Veil (decide (X = X) = true) := ⟨by simp⟩
  refine ⟨fun w => ?_⟩
  obtain ⟨W, hW⟩ : ∃ W, W = w := ⟨_, rfl⟩
  have hH := Has.nil W
  rw [← hW]
  clear hW
  go_enter Try.func17, Try.ntmps17
  apply wp_seq_k; intro K1 hK1
  apply wp_region_lit
  refine wl_boxA rfl rfl rfl hH ?_
  clear hH; intro b1 w hH
  simp only [Act.put, List.setIfInBounds_toArray, List.set_cons_zero, List.set_cons_succ]
  refine wl_boxA rfl rfl rfl hH ?_
  clear hH; intro b2 w hH
  simp only [Act.put, List.setIfInBounds_toArray, List.set_cons_zero, List.set_cons_succ]
  go_wp2_with (first | ((first | ((with_reducible show wpList _ _ _ (⟨_, _, _, _, _, some _⟩ :: _) _ _); refine wl_want rfl ?_) | ((with_reducible show wpList _ _ _ (_ :: _) _ _); first | refine wl_callc rfl rfl (f := 29) rfl (args0 _) (h0) hH ?_ | refine wl_val rfl (ex_eqlV rfl rfl rfl ?_ ?_ HB.out) ?_ | refine wl_val rfl (ex_not rfl rfl) ?_ | refine wl_loadC 0 rfl rfl rfl hH rfl ?_ ?_ | refine wl_loadC 1 rfl rfl rfl hH rfl ?_ ?_ | refine wl_loadC 2 rfl rfl rfl hH rfl ?_ ?_ | refine wl_loadC 3 rfl rfl rfl hH rfl ?_ ?_ | refine wl_storerowC 0 rfl rfl rfl rfl hH rfl ?_ ?_ ?_ | refine wl_storerowC 1 rfl rfl rfl rfl hH rfl ?_ ?_ ?_ | refine wl_storerowC 2 rfl rfl rfl rfl hH rfl ?_ ?_ ?_ | refine wl_storerowC 3 rfl rfl rfl rfl hH rfl ?_ ?_ ?_ | ((first | refine wl_val rfl (ex_move rfl rfl) ?_ | refine wl_val rfl (ex_assign rfl rfl) ?_); try simp only [Act.eval, Array.getD_eq_getD_getElem?, List.getElem?_toArray, List.getElem?_cons_succ, List.getElem?_cons_zero, Option.getD_some, Act.put, List.setIfInBounds_toArray, List.set_cons_zero, List.set_cons_succ])) | ((with_reducible show wpD _ _ _ _ _ (_ :: _) _); first | refine wd_call rfl (show _ = Op.call { callee := _, args := #[Operand.tmp 13], argTypes := _ } from rfl) (f := 32) rfl (args1 _ _) (h1) ?_ | refine wd_call rfl (show _ = Op.call { callee := _, args := #[Operand.tmp 12, Operand.tmp 14], argTypes := _ } from rfl) (f := 30) rfl (args2 _ _ _) (h2) ?_ | refine wd_call rfl (show _ = Op.call { callee := _, args := #[Operand.tmp 20], argTypes := _ } from rfl) (f := 32) rfl (args1 _ _) (h3) ?_ | refine wd_call rfl (show _ = Op.call { callee := _, args := #[Operand.tmp 19, Operand.tmp 21], argTypes := _ } from rfl) (f := 30) rfl (args2 _ _ _) (h4) ?_ | ((first | refine wd_val rfl (ex_move rfl rfl) ?_ | refine wd_val rfl (ex_assign rfl rfl) ?_ | refine wd_val rfl (ex_extract rfl rfl rfl) ?_); try simp only [Act.eval, Array.getD_eq_getD_getElem?, List.getElem?_toArray, List.getElem?_cons_succ, List.getElem?_cons_zero, Option.getD_some, Act.put, List.setIfInBounds_toArray, List.set_cons_zero, List.set_cons_succ]) | refine wd_valH rfl (fun w hH => ex_loadC 0 rfl rfl hH rfl ?_) ?_ | refine wd_valH rfl (fun w hH => ex_loadC 1 rfl rfl hH rfl ?_) ?_ | refine wd_valH rfl (fun w hH => ex_loadC 2 rfl rfl hH rfl ?_) ?_ | refine wd_valH rfl (fun w hH => ex_loadC 3 rfl rfl hH rfl ?_) ?_ | refine wd_skip rfl ?_ | (refine wd_val (v := ?_) rfl ?_ ?_; rotate_left; focus (intro w; go_simp; try with_reducible rfl))) | ((with_reducible show Code.wp _ (Code.region 3 _ true) _ _ _); refine wp_drawS 7 [(C .u8 (List.replicate 32 0), 23)] 0 (C .u8 X) (by kernel_rfl) hH ?_) | ((with_reducible show wpS _ _ _ _ _ _ _ _ _ _); refine ws_storeC rfl rfl rfl rfl rfl ?_ (by rfl) ?_) | ((with_reducible show Code.wp _ (Code.region 4 _ true) _ _ _); refine wp_drawS 7 [(C .u8 (List.replicate 32 0), 23)] 0 (C .u8 X) (by kernel_rfl) hH ?_) | ((with_reducible show wpS _ _ _ _ _ _ _ _ _ _); refine ws_storeC rfl rfl rfl rfl rfl ?_ (by rfl) ?_) | ((refine wn_alloc rfl rfl z23 ?_; intro bn; try dsimp only)) | ((with_reducible show wpD _ _ _ _ _ _ _); refine wd_done ?_; try dsimp only) | ((with_reducible show wpN _ _ _ _ _ _); refine wn_done ?_; try dsimp only)) <;> (first | ((with_reducible show wpList _ _ _ _ _ _); try simp only [Act.put, List.setIfInBounds_toArray, List.set_cons_zero, List.set_cons_succ]) | ((with_reducible show wpD _ _ _ _ _ _ _); try simp only [Act.put, List.setIfInBounds_toArray, List.set_cons_zero, List.set_cons_succ]) | (with_reducible show wpN _ _ _ _ _ _) | ((with_reducible show wpS _ _ _ _ _ _ _ _ _ _); try simp only [Act.put, List.setIfInBounds_toArray, List.set_cons_zero, List.set_cons_succ]) | (with_reducible show Code.wp _ _ _ _ _) | (clear hH; intro w hH; (try simp only [List.nil_append, List.cons_append, List.getD_cons_zero, List.getD_cons_succ, List.set_cons_zero, List.set_cons_succ] at hH); (try simp only [Act.put, List.setIfInBounds_toArray, List.set_cons_zero, List.set_cons_succ] at hH ⊢)) | first | with_reducible assumption | omega | (simp only [List.length_set, List.length_replicate]; omega) | (simp; done) | (simp; omega))) | fail)
  go_ret
  exact ⟨rfl, hH.below⟩
theorem law_both {l m : List Nat} (hl : l.length = 32) (hlb : ∀ i, l.getD i 0 < 256) (hm : m.length = 32) (hmb : ∀ i, m.getD i 0 < 256) : Ret 17 #[.agg (C .u8 l), .agg (C .u8 m)] (.bool true) := by
  obtain ⟨e, hne⟩ := both (secN_sec hl hlb) (secN_sec hm hmb)
  have h1 := agree_num hl hlb (pubN_lt m) hne
  have h2 := agree_num hm hmb (pubN_lt l) (by unfold pubN; rw [← e]; exact hne)
  have e2 : comeN (secN m) (pubN l) = comeN (secN l) (pubN m) := e.symm
  rw [e2] at h2
  exact both_walk hl hm (key32_len _) (key32_len _) (key32_len _) alive6_any (public_ex hm hmb) h1 (public_ex hl hlb) h2

set_option maxRecDepth 100000 in
set_option maxHeartbeats 1000000 in
theorem three_walk {a b c P X Y U : List Nat} (ha : a.length = 32) (hb : b.length = 32) (hc : c.length = 32) (hP : P.length = 32) (hX : X.length = 32) (hY : Y.length = 32) (hU : U.length = 32) (h0 : Ret 29 #[] (.bool true)) (h1 : Ret 32 #[.agg (C .u8 c)] (.agg (C .u8 P)))
    (h2 : Ret 30 #[.agg (C .u8 a), .agg (C .u8 P)] (.tuple #[.agg (C .u8 X), .nilIface])) (h3 : Ret 30 #[.agg (C .u8 b), .agg (C .u8 P)] (.tuple #[.agg (C .u8 Y), .nilIface])) (h4 : Ret 30 #[.agg (C .u8 b), .agg (C .u8 X)] (.tuple #[.agg (C .u8 U), .nilIface]))
    (h5 : Ret 30 #[.agg (C .u8 a), .agg (C .u8 Y)] (.tuple #[.agg (C .u8 U), .nilIface])) : Ret 7 #[.agg (C .u8 a), .agg (C .u8 b), .agg (C .u8 c)] (.bool true) := by
  have HB : Veil (decide (U = U) = true) := ⟨by simp⟩
  refine ⟨fun w => ?_⟩
  obtain ⟨W, hW⟩ : ∃ W, W = w := ⟨_, rfl⟩
  have hH := Has.nil W
  rw [← hW]
  clear hW
  go_enter Try.func7, Try.ntmps7
  apply wp_seq_k; intro K1 hK1
  apply wp_region_lit
  refine wl_boxA rfl rfl rfl hH ?_
  clear hH; intro b1 w hH
  simp only [Act.put, List.setIfInBounds_toArray, List.set_cons_zero, List.set_cons_succ]
  refine wl_boxA rfl rfl rfl hH ?_
  clear hH; intro b2 w hH
  simp only [Act.put, List.setIfInBounds_toArray, List.set_cons_zero, List.set_cons_succ]
  refine wl_boxA rfl rfl rfl hH ?_
  clear hH; intro b3 w hH
  simp only [Act.put, List.setIfInBounds_toArray, List.set_cons_zero, List.set_cons_succ]
  go_wp2_with (first | ((first | ((with_reducible show wpList _ _ _ (⟨_, _, _, _, _, some _⟩ :: _) _ _); refine wl_want rfl ?_) | ((with_reducible show wpList _ _ _ (_ :: _) _ _); first | refine wl_callc rfl rfl (f := 29) rfl (args0 _) (h0) hH ?_ | (refine wl_allocA rfl rfl z23 hH ?_; clear hH; (first | (guard_hyp b7; intro b8 w hH) | (guard_hyp b6; intro b7 w hH) | (guard_hyp b5; intro b6 w hH) | (guard_hyp b4; intro b5 w hH) | intro b4 w hH)) | refine wl_callc rfl rfl (f := 32) rfl (args1 _ _) (h1) hH ?_ | refine wl_callc rfl rfl (f := 30) rfl (args2 _ _ _) (h2) hH ?_ | refine wl_callc rfl rfl (f := 30) rfl (args2 _ _ _) (h3) hH ?_ | refine wl_callc rfl rfl (f := 30) rfl (args2 _ _ _) (h4) hH ?_ | refine wl_callc rfl rfl (f := 30) rfl (args2 _ _ _) (h5) hH ?_ | refine wl_val rfl (ex_eqlV rfl rfl rfl ?_ ?_ HB.out) ?_ | refine wl_val rfl (ex_not rfl rfl) ?_ | refine wl_loadC 0 rfl rfl rfl hH rfl ?_ ?_ | refine wl_loadC 1 rfl rfl rfl hH rfl ?_ ?_ | refine wl_loadC 2 rfl rfl rfl hH rfl ?_ ?_ | refine wl_loadC 3 rfl rfl rfl hH rfl ?_ ?_ | refine wl_loadC 4 rfl rfl rfl hH rfl ?_ ?_ | refine wl_loadC 5 rfl rfl rfl hH rfl ?_ ?_ | refine wl_loadC 6 rfl rfl rfl hH rfl ?_ ?_ | refine wl_loadC 7 rfl rfl rfl hH rfl ?_ ?_ | refine wl_storerowC 0 rfl rfl rfl rfl hH rfl ?_ ?_ ?_ | refine wl_storerowC 1 rfl rfl rfl rfl hH rfl ?_ ?_ ?_ | refine wl_storerowC 2 rfl rfl rfl rfl hH rfl ?_ ?_ ?_ | refine wl_storerowC 3 rfl rfl rfl rfl hH rfl ?_ ?_ ?_ | refine wl_storerowC 4 rfl rfl rfl rfl hH rfl ?_ ?_ ?_ | refine wl_storerowC 5 rfl rfl rfl rfl hH rfl ?_ ?_ ?_ | refine wl_storerowC 6 rfl rfl rfl rfl hH rfl ?_ ?_ ?_ | refine wl_storerowC 7 rfl rfl rfl rfl hH rfl ?_ ?_ ?_ | ((first | refine wl_val rfl (ex_move rfl rfl) ?_ | refine wl_val rfl (ex_assign rfl rfl) ?_ | refine wl_val rfl (ex_extract rfl rfl rfl) ?_); try simp only [Act.eval, Array.getD_eq_getD_getElem?, List.getElem?_toArray, List.getElem?_cons_succ, List.getElem?_cons_zero, Option.getD_some, Act.put, List.setIfInBounds_toArray, List.set_cons_zero, List.set_cons_succ]))) <;> (first | ((with_reducible show wpList _ _ _ _ _ _); try simp only [Act.put, List.setIfInBounds_toArray, List.set_cons_zero, List.set_cons_succ]) | ((with_reducible show wpD _ _ _ _ _ _ _); try simp only [Act.put, List.setIfInBounds_toArray, List.set_cons_zero, List.set_cons_succ]) | (with_reducible show wpN _ _ _ _ _ _) | (with_reducible show Code.wp _ _ _ _ _) | (clear hH; intro w hH; (try simp only [List.nil_append, List.cons_append] at hH); (try simp only [Act.put, List.setIfInBounds_toArray, List.set_cons_zero, List.set_cons_succ] at hH ⊢)) | first | with_reducible assumption | omega | (simp only [List.length_set, List.length_replicate]; omega) | (simp; done) | (simp; omega))) | fail)
  go_ret
  exact ⟨rfl, hH.below⟩
theorem law_three {l m n : List Nat} (hl : l.length = 32) (hlb : ∀ i, l.getD i 0 < 256) (hm : m.length = 32) (hmb : ∀ i, m.getD i 0 < 256) (hn : n.length = 32) (hnb : ∀ i, n.getD i 0 < 256) :
    Ret 7 #[.agg (C .u8 l), .agg (C .u8 m), .agg (C .u8 n)] (.bool true) := by
  obtain ⟨e, n1, n2, n3⟩ := three (secN_sec hl hlb) (secN_sec hm hmb) (secN_sec hn hnb)
  have h2 := agree_num hl hlb (pubN_lt n) n2
  have h3 := agree_num hm hmb (pubN_lt n) n3
  have h4 := agree_num hm hmb (comeN_lt (secN l) (pubN n)) n1
  have h5 := agree_num hl hlb (comeN_lt (secN m) (pubN n)) (by unfold pubN; rw [← e]; exact n1)
  have e2 : comeN (secN l) (comeN (secN m) (pubN n)) = comeN (secN m) (comeN (secN l) (pubN n)) := e.symm
  rw [e2] at h5
  exact three_walk hl hm hn (key32_len _) (key32_len _) (key32_len _) (key32_len _) alive6_any (public_ex hn hnb) h2 h3 h4 h5
end Go.Proofs.Ytmbbdblmengdhaa

/- Walk of the law LadderSame. -/
namespace Go.Proofs.Ytmbbdblmengdhaa
open Go.RowKit

/-- A secret key with bits turned that are set anyway; a public key with its highest bit turned. -/
def sameT (s : List Nat) (y : Nat) : List Nat :=
  (s.set 0 ((s.getD 0 0 ^^^ (y &&& 7) % 256) % 256)).set 31 (((s.set 0 ((s.getD 0 0 ^^^ (y &&& 7) % 256) % 256)).getD 31 0 ^^^ (y &&& 192) % 256) % 256)
def sameQ (p : List Nat) : List Nat := p.set 31 ((p.getD 31 0 ^^^ 128) % 256)
@[simp] theorem sameT_len (s : List Nat) (y : Nat) : (sameT s y).length = s.length := by simp [sameT]
@[simp] theorem sameQ_len (p : List Nat) : (sameQ p).length = p.length := by simp [sameQ]
theorem sameT_dig {s : List Nat} {y : Nat} (h : ∀ i, s.getD i 0 < 256) : ∀ i, (sameT s y).getD i 0 < 256 := by
  unfold sameT
  exact dig_set (dig_set h (Nat.mod_lt _ (by decide))) (Nat.mod_lt _ (by decide))
theorem sameQ_dig {p : List Nat} (h : ∀ i, p.getD i 0 < 256) : ∀ i, (sameQ p).getD i 0 < 256 := dig_set h (Nat.mod_lt _ (by decide))
theorem xor7 : ∀ x, x < 256 → ∀ c, c < 8 → ((x ^^^ c) % 256) / 8 * 8 = x / 8 * 8 := by decide +kernel
theorem xor64 : ∀ x, x < 256 → ∀ c, c < 4 → ((x ^^^ (64 * c)) % 256) % 64 = x % 64 := by decide +kernel
theorem and192 : ∀ y, y < 256 → y &&& 192 = 64 * (y / 64) := by decide +kernel
theorem and7 (y : Nat) : y &&& 7 = y % 8 := by rw [show 7 = 2 ^ 3 - 1 from rfl, Nat.and_two_pow_sub_one_eq_mod]
theorem xor128 : ∀ x, x < 256 → ((x ^^^ 128) % 256) % 128 = x % 128 := by decide +kernel
theorem getD_set_same {l : List Nat} {i v : Nat} (h : i < l.length) : (l.set i v).getD i 0 = v := by simp [h]
theorem same_clamp {s : List Nat} {y : Nat} (hs : s.length = 32) (hb : ∀ i, s.getD i 0 < 256) (hy : y < 256) : clampL (sameT s y) = clampL s := by
  have h0 := hb 0
  have h31 := hb 31
  have e0 : (sameT s y).getD 0 0 = (s.getD 0 0 ^^^ (y % 8)) % 256 := by
    unfold sameT
    rw [getD_set_ne' (by decide), getD_set_same (by omega), and7, Nat.mod_eq_of_lt (a := y % 8) (by omega)]
  have e31 : (sameT s y).getD 31 0 = (s.getD 31 0 ^^^ (64 * (y / 64))) % 256 := by
    unfold sameT
    rw [getD_set_same (by simp; omega), getD_set_ne' (by decide), and192 y hy, Nat.mod_eq_of_lt (a := 64 * (y / 64)) (by omega)]
  refine list_ext_getD (by simp) fun i hi => ?_
  have hi' : i < 32 := by simpa [hs] using hi
  unfold clampL
  by_cases h1 : i = 31
  · subst h1
    rw [getD_set_same (by simp; omega), getD_set_same (by simp; omega), e31, xor64 _ h31 _ (by omega)]
  · rw [getD_set_ne' (fun e => h1 e.symm), getD_set_ne' (fun e => h1 e.symm)]
    by_cases h2 : i = 0
    · subst h2
      rw [getD_set_same (by simp; omega), getD_set_same (by omega), e0, xor7 _ h0 _ (by omega)]
    · rw [getD_set_ne' (fun e => h2 e.symm), getD_set_ne' (fun e => h2 e.symm)]
      unfold sameT
      rw [getD_set_ne' (fun e => h1 e.symm), getD_set_ne' (fun e => h2 e.symm)]
theorem same_key {p : List Nat} (hp : p.length = 32) (hb : ∀ i, p.getD i 0 < 256) : keyN (sameQ p) = keyN p := by
  have h := valN_set 256 p 31 ((p.getD 31 0 ^^^ 128) % 256) (by omega)
  have hx := xor128 _ (hb 31)
  have h1 := hb 31
  unfold keyN
  have e : valN 256 (sameQ p) % 2 ^ 255 = valN 256 p % 2 ^ 255 := by
    have p255 : (2 : Nat) ^ 255 = 128 * 256 ^ 31 := by decide +kernel
    rw [p255]
    unfold sameQ
    generalize (256 : Nat) ^ 31 = B at *
    generalize valN 256 (p.set 31 ((p.getD 31 0 ^^^ 128) % 256)) = V at *
    generalize (p.getD 31 0 ^^^ 128) % 256 = v at *
    generalize p.getD 31 0 = x at *
    generalize valN 256 p = Z at *
    -- V + x B = Z + v B, v and x alike mod 128
    have ev : v = 128 * (v / 128) + v % 128 := by omega
    have ex : x = 128 * (x / 128) + v % 128 := by omega
    generalize v / 128 = a at ev
    generalize x / 128 = b at ex
    generalize v % 128 = r at *
    subst ev; subst ex
    have : V + 128 * B * b = Z + 128 * B * a := by
      have h2 : V + (128 * b + r) * B = Z + (128 * a + r) * B := h
      grind
    have g1 : (V + 128 * B * b) % (128 * B) = V % (128 * B) := Nat.add_mul_mod_self_left _ _ _
    have g2 : (Z + 128 * B * a) % (128 * B) = Z % (128 * B) := Nat.add_mul_mod_self_left _ _ _
    rw [← g1, ← g2, this]
  rw [e]

set_option maxRecDepth 100000 in
set_option maxHeartbeats 2000000 in
theorem same_walk {s p O P K : List Nat} {y : Nat} {e : Value} {n : Nat} (hs : s.length = 32) (hp : p.length = 32) (hO : O.length = 32) (hP : P.length = 32) (hK : K.length = 32) (hy : y < 256) (h0 : Ret 29 #[] (.bool true)) (h1 : Ret 30 #[.agg (C .u8 s), .agg (C .u8 p)] (.tuple #[.agg (C .u8 O), e]))
    (h2 : Ret 30 #[.agg (C .u8 (sameT s y)), .agg (C .u8 (sameQ p))] (.tuple #[.agg (C .u8 O), e])) (h3 : Ret 31 #[e] (.int .i64 (n : Nat))) (h4 : Ret 32 #[.agg (C .u8 s)] (.agg (C .u8 P))) (h5 : Ret 32 #[.agg (C .u8 (sameT s y))] (.agg (C .u8 P))) (h6 : Ret 18 #[.agg (C .u8 s)] (.agg (C .u8 K))) (h7 : Ret 18 #[.agg (C .u8 (sameT s y))] (.agg (C .u8 K))) :
    Ret 6 #[.agg (C .u8 s), .agg (C .u8 p), .int .u8 (y : Nat)] (.bool true) := by
  have HO : Veil (decide (O = O) = true) := ⟨by simp⟩
  have HP : Veil (decide (P = P) = true) := ⟨by simp⟩
  have HK : Veil (decide (K = K) = true) := ⟨by simp⟩
  have HN : Veil (decide (n = n) = true) := ⟨by simp⟩
  unfold sameT sameQ at h2
  unfold sameT at h5 h7
  refine ⟨fun w => ?_⟩
  obtain ⟨W, hW⟩ : ∃ W, W = w := ⟨_, rfl⟩
  have hH := Has.nil W
  rw [← hW]
  clear hW
  go_enter Try.func6, Try.ntmps6
  apply wp_seq_k; intro K1 hK1
  apply wp_region_lit
  refine wl_boxA rfl rfl rfl hH ?_
  clear hH; intro b1 w hH
  simp only [Act.put, List.setIfInBounds_toArray, List.set_cons_zero, List.set_cons_succ]
  refine wl_boxA rfl rfl rfl hH ?_
  clear hH; intro b2 w hH
  simp only [Act.put, List.setIfInBounds_toArray, List.set_cons_zero, List.set_cons_succ]
  go_wp2_with (first | ((first | ((with_reducible show wpList _ _ _ (_ :: _) _ _); first | refine wl_callc rfl rfl (f := 29) rfl (args0 _) (h0) hH ?_ | (refine wl_allocA rfl rfl z23 hH ?_; clear hH; (first | (guard_hyp b5; intro b6 w hH) | intro b5 w hH)) | refine wl_val rfl (ex_and_u8 rfl rfl rfl) ?_ | refine wl_val rfl (ex_xor_u8 rfl rfl rfl) ?_ | refine wl_callc rfl (show _ = Op.call { callee := _, args := #[Operand.tmp 34, Operand.tmp 35], argTypes := _ } from rfl) (f := 30) rfl (args2 _ _ _) (h1) hH ?_ | refine wl_callc rfl (show _ = Op.call { callee := _, args := #[Operand.tmp 40, Operand.tmp 41], argTypes := _ } from rfl) (f := 30) rfl (args2 _ _ _) (h2) hH ?_ | refine wl_val rfl (ex_not rfl rfl) ?_ | ((with_reducible show wpList _ _ _ (⟨_, Op.load 23 _, _, _, _, _⟩ :: _) _ _); first | refine wl_loadC 0 rfl rfl rfl hH rfl ?_ ?_ | refine wl_loadC 1 rfl rfl rfl hH rfl ?_ ?_ | refine wl_loadC 2 rfl rfl rfl hH rfl ?_ ?_ | refine wl_loadC 3 rfl rfl rfl hH rfl ?_ ?_ | refine wl_loadC 4 rfl rfl rfl hH rfl ?_ ?_ | refine wl_loadC 5 rfl rfl rfl hH rfl ?_ ?_) | ((with_reducible show wpList _ _ _ (⟨_, Op.load 5 _, _, _, _, _⟩ :: _) _ _); first | refine wl_load 0 rfl rfl rfl hH rfl (C_get ?_) ?_ | refine wl_load 1 rfl rfl rfl hH rfl (C_get ?_) ?_ | refine wl_load 2 rfl rfl rfl hH rfl (C_get ?_) ?_ | refine wl_load 3 rfl rfl rfl hH rfl (C_get ?_) ?_ | refine wl_load 4 rfl rfl rfl hH rfl (C_get ?_) ?_ | refine wl_load 5 rfl rfl rfl hH rfl (C_get ?_) ?_) | ((with_reducible show wpList _ _ _ (⟨_, Op.store 23 _ _, _, _, _, _⟩ :: _) _ _); first | refine wl_storerowC 0 rfl rfl rfl rfl hH rfl ?_ ?_ ?_ | refine wl_storerowC 1 rfl rfl rfl rfl hH rfl ?_ ?_ ?_ | refine wl_storerowC 2 rfl rfl rfl rfl hH rfl ?_ ?_ ?_ | refine wl_storerowC 3 rfl rfl rfl rfl hH rfl ?_ ?_ ?_ | refine wl_storerowC 4 rfl rfl rfl rfl hH rfl ?_ ?_ ?_ | refine wl_storerowC 5 rfl rfl rfl rfl hH rfl ?_ ?_ ?_) | ((with_reducible show wpList _ _ _ (⟨_, Op.store 5 _ _, _, _, _, _⟩ :: _) _ _); first | refine wl_storeC 0 rfl rfl rfl rfl hH rfl ?_ ?_ | refine wl_storeC 1 rfl rfl rfl rfl hH rfl ?_ ?_ | refine wl_storeC 2 rfl rfl rfl rfl hH rfl ?_ ?_ | refine wl_storeC 3 rfl rfl rfl rfl hH rfl ?_ ?_ | refine wl_storeC 4 rfl rfl rfl rfl hH rfl ?_ ?_ | refine wl_storeC 5 rfl rfl rfl rfl hH rfl ?_ ?_) | refine wl_val rfl (ex_ixaddr1 rfl rfl rfl ?_) ?_ | ((first | refine wl_val rfl (ex_move rfl rfl) ?_ | refine wl_val rfl (ex_assign rfl rfl) ?_ | refine wl_val rfl (ex_extract rfl rfl rfl) ?_); try simp only [Act.eval, Array.getD_eq_getD_getElem?, List.getElem?_toArray, List.getElem?_cons_succ, List.getElem?_cons_zero, Option.getD_some, Act.put, List.setIfInBounds_toArray, List.set_cons_zero, List.set_cons_succ])) | ((with_reducible show wpD _ _ _ _ _ (_ :: _) _); first | refine wd_call rfl rfl (f := 31) rfl (args1 _ _) (h3) ?_ | refine wd_call rfl (show _ = Op.call { callee := _, args := #[Operand.tmp 56], argTypes := _ } from rfl) (f := 32) rfl (args1 _ _) (h4) ?_ | refine wd_call rfl (show _ = Op.call { callee := _, args := #[Operand.tmp 58], argTypes := _ } from rfl) (f := 32) rfl (args1 _ _) (h5) ?_ | refine wd_call rfl (show _ = Op.call { callee := _, args := #[Operand.tmp 63], argTypes := _ } from rfl) (f := 18) rfl (args1 _ _) (h6) ?_ | refine wd_call rfl (show _ = Op.call { callee := _, args := #[Operand.tmp 65], argTypes := _ } from rfl) (f := 18) rfl (args1 _ _) (h7) ?_ | refine wd_val rfl (ex_eqlV rfl rfl rfl ?_ ?_ HO.out) ?_ | refine wd_val rfl (ex_eqlV rfl rfl rfl ?_ ?_ HP.out) ?_ | refine wd_val rfl (ex_eqlV rfl rfl rfl ?_ ?_ HK.out) ?_ | refine wd_val rfl (ex_eqV rfl rfl rfl HN.out) ?_ | ((first | refine wd_val rfl (ex_move rfl rfl) ?_ | refine wd_val rfl (ex_assign rfl rfl) ?_); try simp only [Act.eval, Array.getD_eq_getD_getElem?, List.getElem?_toArray, List.getElem?_cons_succ, List.getElem?_cons_zero, Option.getD_some, Act.put, List.setIfInBounds_toArray, List.set_cons_zero, List.set_cons_succ]) | refine wd_valH rfl (fun w hH => ex_loadC 0 rfl rfl hH rfl ?_) ?_ | refine wd_valH rfl (fun w hH => ex_loadC 1 rfl rfl hH rfl ?_) ?_ | refine wd_valH rfl (fun w hH => ex_loadC 2 rfl rfl hH rfl ?_) ?_ | refine wd_valH rfl (fun w hH => ex_loadC 3 rfl rfl hH rfl ?_) ?_ | refine wd_valH rfl (fun w hH => ex_loadC 4 rfl rfl hH rfl ?_) ?_ | refine wd_valH rfl (fun w hH => ex_loadC 5 rfl rfl hH rfl ?_) ?_ | refine wd_skip rfl ?_ | (refine wd_val (v := ?_) rfl ?_ ?_; rotate_left; focus (intro w; go_simp; try with_reducible rfl))) | ((with_reducible show Code.wp _ (Code.region 3 _ true) _ _ _); refine wp_drawS 2 [(C .u8 (List.replicate 32 0), 23), (C .u8 (List.replicate 32 0), 23)] 0 (C .u8 s) (by kernel_rfl) hH ?_) | ((with_reducible show wpS _ _ _ _ _ _ _ _ _ _); refine ws_storeC rfl rfl rfl rfl rfl ?_ (by rfl) ?_) | ((refine wn_alloc rfl rfl z23 ?_; intro bn; try dsimp only)) | ((with_reducible show Code.wp _ (Code.region 9 _ true) _ _ _); refine wp_draw 25 [] (by kernel_rfl) hH ?_) | ((with_reducible show wpD _ _ _ _ _ _ _); refine wd_done ?_; try dsimp only) | ((with_reducible show wpN _ _ _ _ _ _); refine wn_done ?_; try dsimp only)) <;> (first | ((with_reducible show wpList _ _ _ _ _ _); try simp only [Act.put, List.setIfInBounds_toArray, List.set_cons_zero, List.set_cons_succ]) | ((with_reducible show wpD _ _ _ _ _ _ _); try simp only [Act.put, List.setIfInBounds_toArray, List.set_cons_zero, List.set_cons_succ]) | (with_reducible show wpN _ _ _ _ _ _) | ((with_reducible show wpS _ _ _ _ _ _ _ _ _ _); try simp only [Act.put, List.setIfInBounds_toArray, List.set_cons_zero, List.set_cons_succ]) | (with_reducible show Code.wp _ _ _ _ _) | (clear hH; intro w hH; (try simp only [List.nil_append, List.cons_append, List.getD_cons_zero, List.getD_cons_succ, List.set_cons_zero, List.set_cons_succ] at hH); (try simp only [Act.put, List.setIfInBounds_toArray, List.set_cons_zero, List.set_cons_succ] at hH ⊢)) | first | with_reducible assumption | omega | (simp only [List.length_set, List.length_replicate]; omega) | (simp; done) | (simp; omega))) | fail)
  go_ret
  exact ⟨rfl, hH.below⟩
theorem law_same {s p : List Nat} (hs : s.length = 32) (hsb : ∀ i, s.getD i 0 < 256) (hp : p.length = 32) (hpb : ∀ i, p.getD i 0 < 256) {y : Nat} (hy : y < 256) : Ret 6 #[.agg (C .u8 s), .agg (C .u8 p), .int .u8 (y : Nat)] (.bool true) := by
  have ec := same_clamp hs hsb hy
  have ek := same_key hp hpb
  have esec : secN (sameT s y) = secN s := by unfold secN; rw [ec]
  have ht : (sameT s y).length = 32 := by simp [hs]
  have htb := sameT_dig (y := y) hsb
  have h2 := agree_ex ht htb (by rw [sameQ_len]; exact hp) (sameQ_dig hpb)
  have ea : agrN (sameT s y) (sameQ p) = agrN s p := by unfold agrN; rw [esec, ek]
  rw [ea] at h2
  have h5 := public_ex ht htb
  have ep : pubN (sameT s y) = pubN s := by unfold pubN; rw [esec]
  rw [ep] at h5
  have h7 := clamp_any ht htb
  rw [ec] at h7
  exact same_walk hs hp (key32_len _) (key32_len _) (by rw [clampL_len, hs]) hy alive6_any (agree_ex hs hsb hp hpb) h2 (num_ex _) (public_ex hs hsb) h5 (clamp_any hs hsb) h7
theorem law_same_int {s p : List Nat} (hs : s.length = 32) (hsb : ∀ i, s.getD i 0 < 256) (hp : p.length = 32) (hpb : ∀ i, p.getD i 0 < 256) {z : Int} (hz : (Lit.int .u8 z).wf = true) : Ret 6 #[.agg (C .u8 s), .agg (C .u8 p), .int .u8 z] (.bool true) := by
  have h := hz
  simp [Lit.wf, IntKind.min, IntKind.max, IntKind.signed, IntKind.bits] at h
  obtain ⟨y, rfl⟩ : ∃ y : Nat, z = (y : Int) := ⟨z.toNat, by omega⟩
  exact law_same hs hsb hp hpb (by omega)
end Go.Proofs.Ytmbbdblmengdhaa
