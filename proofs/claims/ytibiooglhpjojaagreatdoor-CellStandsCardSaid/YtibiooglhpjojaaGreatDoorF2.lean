/- basis.list over a book that leaves all as it is: nothing turns. Printed by basis.py. -/
import Derived.Test.YtibiooglhpjojaaGreatDoorF1
import Derived.Test.YtibiooglhpjojaaGreatDoorD2
set_option linter.unusedSimpArgs false
set_option linter.unusedVariables false
namespace Go.AW
open Go.RowKit Go.Proofs
set_option maxRecDepth 10000

def still : AV := .ifc 111 (.agg [])
theorem me_Len : Meth Tryz.prog 111 "Len" 278 := Meth.of (by kernel_rfl)
theorem me_Bad : Meth Tryz.prog 111 "Bad" 275 := Meth.of (by kernel_rfl)
theorem me_Int : Meth Tryz.prog 111 "Int" 277 := Meth.of (by kernel_rfl)
theorem me_Bool : Meth Tryz.prog 111 "Bool" 276 := Meth.of (by kernel_rfl)
theorem me_Text : Meth Tryz.prog 111 "Text" 279 := Meth.of (by kernel_rfl)
theorem nk_Len : NilOk Tryz.prog 111 (.agg #[]) "Len" = True := eq_true (NilOk.of (k := 278) (by kernel_rfl) _)
theorem nk_Int : NilOk Tryz.prog 111 (.agg #[]) "Int" = True := eq_true (NilOk.of (k := 277) (by kernel_rfl) _)
theorem nk_Bool : NilOk Tryz.prog 111 (.agg #[]) "Bool" = True := eq_true (NilOk.of (k := 276) (by kernel_rfl) _)
theorem nk_Text : NilOk Tryz.prog 111 (.agg #[]) "Text" = True := eq_true (NilOk.of (k := 279) (by kernel_rfl) _)
theorem Len_ct (n : Int) (st : St) : Ct Tryz.prog 278 [.agg [], .d (int n)] st (fun r s => r = .d (int n) ∧ s = st) := by
  refine Ct.of_textR mo Tryz.func278 rfl [] (by kernel_rfl) (by kernel_rfl) Tryz.ntmps278 (Nat.le_of_ble_eq_true rfl) Tryz.results278 ?_
  simp -implicitDefEqProofs only [AWB, List.lookup_nil, ↓upd_hit, ↓upd_if, ↓reduceIte, List.nil_append, List.cons_append, List.length_cons, List.length_nil, List.getElem?_cons_zero, List.getElem?_cons_succ, Option.getD_some, Nat.reduceAdd, Nat.reduceLT, Nat.reduceLeDiff, Nat.reduceEqDiff, Nat.reduceBEq, ne_eq, reduceCtorEq, List.all_cons, List.all_nil, implies_true, List.getD_cons_zero, List.getD_cons_succ, List.append_eq, Int.reduceBEq, beq_self_eq_true, CellT.B]
  exact En_pure (.d _) ⟨rfl, rfl⟩
theorem Bad_ct (st : St) : Ct Tryz.prog 275 [.agg []] st (fun r s => r = .d (bl false) ∧ s = st) := by
  refine Ct.of_textR mo Tryz.func275 rfl [] (by kernel_rfl) (by kernel_rfl) Tryz.ntmps275 (Nat.le_of_ble_eq_true rfl) Tryz.results275 ?_
  simp -implicitDefEqProofs only [AWB, List.lookup_nil, ↓upd_hit, ↓upd_if, ↓reduceIte, List.nil_append, List.cons_append, List.length_cons, List.length_nil, List.getElem?_cons_zero, List.getElem?_cons_succ, Option.getD_some, Nat.reduceAdd, Nat.reduceLT, Nat.reduceLeDiff, Nat.reduceEqDiff, Nat.reduceBEq, ne_eq, reduceCtorEq, List.all_cons, List.all_nil, implies_true, List.getD_cons_zero, List.getD_cons_succ, List.append_eq, Int.reduceBEq, beq_self_eq_true, CellT.B]
  exact En_pure (.d _) ⟨rfl, rfl⟩
theorem Int_ct (a : AV) (st : St) : Ct Tryz.prog 277 [.agg [], a] st (fun r s => r = .tup [] ∧ s = st) := by
  refine Ct.of_textR mo Tryz.func277 rfl [] (by kernel_rfl) (by kernel_rfl) Tryz.ntmps277 (Nat.le_of_ble_eq_true rfl) Tryz.results277 ?_
  simp -implicitDefEqProofs only [AWB, List.lookup_nil, ↓upd_hit, ↓upd_if, ↓reduceIte, List.nil_append, List.cons_append, List.length_cons, List.length_nil, List.getElem?_cons_zero, List.getElem?_cons_succ, Option.getD_some, Nat.reduceAdd, Nat.reduceLT, Nat.reduceLeDiff, Nat.reduceEqDiff, Nat.reduceBEq, ne_eq, reduceCtorEq, List.all_cons, List.all_nil, implies_true, List.getD_cons_zero, List.getD_cons_succ, List.append_eq, Int.reduceBEq, beq_self_eq_true, CellT.B]
  exact En_pure (Lw.tupL .nil) ⟨rfl, rfl⟩
theorem Bool_ct (a : AV) (st : St) : Ct Tryz.prog 276 [.agg [], a] st (fun r s => r = .tup [] ∧ s = st) := by
  refine Ct.of_textR mo Tryz.func276 rfl [] (by kernel_rfl) (by kernel_rfl) Tryz.ntmps276 (Nat.le_of_ble_eq_true rfl) Tryz.results276 ?_
  simp -implicitDefEqProofs only [AWB, List.lookup_nil, ↓upd_hit, ↓upd_if, ↓reduceIte, List.nil_append, List.cons_append, List.length_cons, List.length_nil, List.getElem?_cons_zero, List.getElem?_cons_succ, Option.getD_some, Nat.reduceAdd, Nat.reduceLT, Nat.reduceLeDiff, Nat.reduceEqDiff, Nat.reduceBEq, ne_eq, reduceCtorEq, List.all_cons, List.all_nil, implies_true, List.getD_cons_zero, List.getD_cons_succ, List.append_eq, Int.reduceBEq, beq_self_eq_true, CellT.B]
  exact En_pure (Lw.tupL .nil) ⟨rfl, rfl⟩
theorem Text_ct (a : AV) (st : St) : Ct Tryz.prog 279 [.agg [], a] st (fun r s => r = .tup [] ∧ s = st) := by
  refine Ct.of_textR mo Tryz.func279 rfl [] (by kernel_rfl) (by kernel_rfl) Tryz.ntmps279 (Nat.le_of_ble_eq_true rfl) Tryz.results279 ?_
  simp -implicitDefEqProofs only [AWB, List.lookup_nil, ↓upd_hit, ↓upd_if, ↓reduceIte, List.nil_append, List.cons_append, List.length_cons, List.length_nil, List.getElem?_cons_zero, List.getElem?_cons_succ, Option.getD_some, Nat.reduceAdd, Nat.reduceLT, Nat.reduceLeDiff, Nat.reduceEqDiff, Nat.reduceBEq, ne_eq, reduceCtorEq, List.all_cons, List.all_nil, implies_true, List.getD_cons_zero, List.getD_cons_succ, List.append_eq, Int.reduceBEq, beq_self_eq_true, CellT.B]
  exact En_pure (Lw.tupL .nil) ⟨rfl, rfl⟩

theorem list_165 (id off : Nat) (xs : List (List DV)) (one : AV) (st : St) (hid : id < st.n) (hx : (st.obj id).2[off]? = some (.d (.sl 1 xs))) (hl : ∀ x ∈ xs, x.length = 1) (hc : ∀ x ∈ xs, (x.map AV.d).all cellish = true)
    (hb : xs.length * 8 ≤ 140737488355328) (h1 : ∀ (st' : St) (j : Nat) (x : List DV), x ∈ xs → j < st'.n → (st'.obj j).2 = x.map .d → callA Tryz.prog one [still, .ptr j 0] st' (fun _ s => s = st')) :
    Ct Tryz.prog 165 [still, .ptr id off, one] st (fun r s => r = .tup [] ∧ s = st) := by
  refine Ct.of_textR mo Tryz.func165 rfl [] (by kernel_rfl) (by kernel_rfl) Tryz.ntmps165 (Nat.le_of_ble_eq_true rfl) Tryz.results165 ?_
  unfold still at *
  have hs : sub (st.obj id).2 off 1 false = ⟨True, .d (.sl 1 xs)⟩ := sub_get hx
  simp -implicitDefEqProofs only [AWB, List.lookup_nil, ↓upd_hit, ↓upd_if, ↓reduceIte, List.nil_append, List.cons_append, List.length_cons, List.length_nil, List.getElem?_cons_zero, List.getElem?_cons_succ, Option.getD_some, Nat.reduceAdd, Nat.reduceLT, Nat.reduceLeDiff, Nat.reduceEqDiff, Nat.reduceBEq, ne_eq, reduceCtorEq, List.all_cons, List.all_nil, implies_true, List.getD_cons_zero, List.getD_cons_succ, List.append_eq, Int.reduceBEq, beq_self_eq_true, nd_165, ext_obj_old _ _ _ _ hid, hs, nk_Len]
  refine Iv_ct me_Len (Len_ct _ _) rfl ?_
  simp -implicitDefEqProofs only [AWB, List.lookup_nil, ↓upd_hit, ↓upd_if, ↓reduceIte, List.nil_append, List.cons_append, List.length_cons, List.length_nil, List.getElem?_cons_zero, List.getElem?_cons_succ, Option.getD_some, Nat.reduceAdd, Nat.reduceLT, Nat.reduceLeDiff, Nat.reduceEqDiff, Nat.reduceBEq, ne_eq, reduceCtorEq, List.all_cons, List.all_nil, implies_true, List.getD_cons_zero, List.getD_cons_succ, List.append_eq, Int.reduceBEq, beq_self_eq_true, nd_165, ext_obj_old _ _ _ _ hid, hs, nk_Len]
  refine loopR_ext (fun n tm s => ∃ i : Nat, i ≤ xs.length ∧ n = xs.length - i ∧ tm 0 = .ifc 111 (.agg []) ∧ tm 1 = .ptr id off ∧ tm 2 = one ∧ tm 6 = .d (int xs.length) ∧ tm 8 = .d (int i) ∧ Grow st s ∧
      ((i = 0 ∧ tm 7 = .nil) ∨ ∃ tk, tm 7 = .own tk 1 (xs.take i) ∧ st.k ≤ tk ∧ tk < s.k ∧ s.live tk = some 3)) xs.length
    ⟨0, by omega, by omega, rfl, rfl, rfl, rfl, rfl, (Grow.refl st).ext [] [], .inl ⟨rfl, rfl⟩⟩ ?_
  rintro n tm st1 ⟨i, hi, hn, t0, t1, t2, t6, t8, hg, h7⟩
  have hid1 : id < st1.n := Nat.lt_of_lt_of_le hid hg.n
  have hs1 : sub (st1.obj id).2 off 1 false = ⟨True, .d (.sl 1 xs)⟩ := by rw [hg.obj id hid]; exact hs
  by_cases hlt : i < xs.length
  · have e1 : decide ((i : Int) < (xs.length : Int)) = true := by simp; omega
    have hm : xs[i] ∈ xs := List.getElem_mem hlt
    have hN : xs[i].length = 1 := hl _ hm
    have hie : ∀ (e n b : Nat) (k : IntKind), idxV (some (e, n, b)) (.d (.sl n xs)) (.d (.lit (.int k i))) = ⟨True, .pp (xs[i].map .d)⟩ := fun e n b k => idx_elem hlt
    have hse : sub (xs[i].map AV.d) 0 1 false = ⟨True, ldv false xs[i]⟩ := sub_elem hN (by decide)
    have hce : cellsL (ldv false xs[i]) = xs[i].map .d := cellsL_ldv (n := 1) hN (by decide)
    have hcc : (xs[i].map AV.d).all cellish = true := hc _ hm
    have hsp : ∀ cs : List AV, cs.length = 1 → splice cs 0 (xs[i].map AV.d) = xs[i].map .d := fun cs h => splice_all (by simp [h, hN])
    have e5 : IntKind.wrap .i64 ((i : Int) + 1) = ((i + 1 : Nat) : Int) := by rw [wrap_id _ (by omega) (by omega)]; omega
    simp -implicitDefEqProofs only [AWB, List.lookup_nil, ↓upd_hit, ↓upd_if, ↓reduceIte, List.nil_append, List.cons_append, List.length_cons, List.length_nil, List.getElem?_cons_zero, List.getElem?_cons_succ, Option.getD_some, Nat.reduceAdd, Nat.reduceLT, Nat.reduceLeDiff, Nat.reduceEqDiff, Nat.reduceBEq, ne_eq, reduceCtorEq, List.all_cons, List.all_nil, implies_true, List.getD_cons_zero, List.getD_cons_succ, List.append_eq, Int.reduceBEq, beq_self_eq_true, nd_165, t0, t1, t2, t6, t8, e1, ext_obj_old _ _ _ _ hid1, hs1]
    refine Iv_ct me_Bad (Bad_ct _) rfl ?_
    simp -implicitDefEqProofs only [AWB, List.lookup_nil, ↓upd_hit, ↓upd_if, ↓reduceIte, List.nil_append, List.cons_append, List.length_cons, List.length_nil, List.getElem?_cons_zero, List.getElem?_cons_succ, Option.getD_some, Nat.reduceAdd, Nat.reduceLT, Nat.reduceLeDiff, Nat.reduceEqDiff, Nat.reduceBEq, ne_eq, reduceCtorEq, List.all_cons, List.all_nil, implies_true, List.getD_cons_zero, List.getD_cons_succ, List.append_eq, Int.reduceBEq, beq_self_eq_true, nd_165, t0, t1, t2, t6, t8, e1, ext_obj_old _ _ _ _ hid1, hs1, hie, hse, hce, hcc, hN, List.length_map, hsp, ext_setc_new]
    refine Cl_val (fun _ s => s = st1.ext [(3, xs[i].map .d)] []) (h1 _ _ _ hm (by simp [ext_n]) (by rw [ext_obj_at]; rfl)) rfl ?_
    rintro v _ rfl
    rcases h7 with ⟨rfl, t7⟩ | ⟨tk, t7, k1, k2, k3⟩
    · simp -implicitDefEqProofs only [AWB, List.lookup_nil, ↓upd_hit, ↓upd_if, ↓reduceIte, List.nil_append, List.cons_append, List.length_cons, List.length_nil, List.getElem?_cons_zero, List.getElem?_cons_succ, Option.getD_some, Nat.reduceAdd, Nat.reduceLT, Nat.reduceLeDiff, Nat.reduceEqDiff, Nat.reduceBEq, ne_eq, reduceCtorEq, List.all_cons, List.all_nil, implies_true, List.getD_cons_zero, List.getD_cons_succ, List.append_eq, Int.reduceBEq, beq_self_eq_true, nd_165, t0, t1, t2, t6, t7, t8, hse, hce]
      refine Bs_d el_24 (toDss_one hce) zl_3 (by decide) (by decide) rfl rfl rfl (by simp only [List.all_cons, List.all_nil, hce, hcc, List.length_map, hN]; rfl) rfl ?_
      simp -implicitDefEqProofs only [AWB, List.lookup_nil, ↓upd_hit, ↓upd_if, ↓reduceIte, List.nil_append, List.cons_append, List.length_cons, List.length_nil, List.getElem?_cons_zero, List.getElem?_cons_succ, Option.getD_some, Nat.reduceAdd, Nat.reduceLT, Nat.reduceLeDiff, Nat.reduceEqDiff, Nat.reduceBEq, ne_eq, reduceCtorEq, List.all_cons, List.all_nil, implies_true, List.getD_cons_zero, List.getD_cons_succ, List.append_eq, Int.reduceBEq, beq_self_eq_true, nd_165, t0, t1, t2, t6, t7, t8, hse, hce]
      refine Ap_nil el_24 rfl (by decide) zl_3 (by intro y hy; simp only [List.mem_singleton] at hy; rw [hy]; exact hN) (by simp) (by simp) rfl ?_
      simp -implicitDefEqProofs only [AWB, List.lookup_nil, ↓upd_hit, ↓upd_if, ↓reduceIte, List.nil_append, List.cons_append, List.length_cons, List.length_nil, List.getElem?_cons_zero, List.getElem?_cons_succ, Option.getD_some, Nat.reduceAdd, Nat.reduceLT, Nat.reduceLeDiff, Nat.reduceEqDiff, Nat.reduceBEq, ne_eq, reduceCtorEq, List.all_cons, List.all_nil, implies_true, List.getD_cons_zero, List.getD_cons_succ, List.append_eq, Int.reduceBEq, beq_self_eq_true, nd_165, t0, t1, t2, t6, t7, t8, e5]
      exact LpR.intro (xs.length - 1) (by omega) ⟨1, by omega, rfl, t0, t1, t2, t6, rfl, hg.ext _ _, .inr ⟨st1.k + 1, by rw [List.take_succ_eq_append_getElem hlt]; rfl, by have := hg.k; omega, by simp [ext_k], ext_live_new _ _ _ 1 (by decide)⟩⟩
    · simp -implicitDefEqProofs only [AWB, List.lookup_nil, ↓upd_hit, ↓upd_if, ↓reduceIte, List.nil_append, List.cons_append, List.length_cons, List.length_nil, List.getElem?_cons_zero, List.getElem?_cons_succ, Option.getD_some, Nat.reduceAdd, Nat.reduceLT, Nat.reduceLeDiff, Nat.reduceEqDiff, Nat.reduceBEq, ne_eq, reduceCtorEq, List.all_cons, List.all_nil, implies_true, List.getD_cons_zero, List.getD_cons_succ, List.append_eq, Int.reduceBEq, beq_self_eq_true, nd_165, t0, t1, t2, t6, t7, t8, hse, hce]
      refine Bs_d el_24 (toDss_one hce) zl_3 (by decide) (by decide) rfl rfl rfl (by simp only [List.all_cons, List.all_nil, hce, hcc, List.length_map, hN]; rfl) rfl ?_
      simp -implicitDefEqProofs only [AWB, List.lookup_nil, ↓upd_hit, ↓upd_if, ↓reduceIte, List.nil_append, List.cons_append, List.length_cons, List.length_nil, List.getElem?_cons_zero, List.getElem?_cons_succ, Option.getD_some, Nat.reduceAdd, Nat.reduceLT, Nat.reduceLeDiff, Nat.reduceEqDiff, Nat.reduceBEq, ne_eq, reduceCtorEq, List.all_cons, List.all_nil, implies_true, List.getD_cons_zero, List.getD_cons_succ, List.append_eq, Int.reduceBEq, beq_self_eq_true, nd_165, t0, t1, t2, t6, t7, t8, hse, hce]
      refine Ap_own el_24 rfl (by decide) zl_3 (by intro y hy; simp only [List.mem_singleton] at hy; rw [hy]; exact hN) (by rw [ext_live_old _ _ _ _ k2]; exact k3) (by simp; omega) (by simp; omega) rfl ?_
      simp -implicitDefEqProofs only [AWB, List.lookup_nil, ↓upd_hit, ↓upd_if, ↓reduceIte, List.nil_append, List.cons_append, List.length_cons, List.length_nil, List.getElem?_cons_zero, List.getElem?_cons_succ, Option.getD_some, Nat.reduceAdd, Nat.reduceLT, Nat.reduceLeDiff, Nat.reduceEqDiff, Nat.reduceBEq, ne_eq, reduceCtorEq, List.all_cons, List.all_nil, implies_true, List.getD_cons_zero, List.getD_cons_succ, List.append_eq, Int.reduceBEq, beq_self_eq_true, nd_165, t0, t1, t2, t6, t7, t8, e5, ext_eat_old _ _ _ _ k2]
      exact LpR.intro (xs.length - (i + 1)) (by omega) ⟨i + 1, by omega, rfl, t0, t1, t2, t6, rfl, (hg.eat tk k1).ext _ _, .inr ⟨st1.k + 1, by rw [List.take_succ_eq_append_getElem hlt]; rfl, by have := hg.k; omega, by simp [ext_k, St.eat_k], ext_live_new _ _ _ 1 (by decide)⟩⟩
  · have e1 : decide ((i : Int) < (xs.length : Int)) = false := by simp; omega
    have : i = xs.length := by omega
    subst this
    have hoff : off + 1 ≤ (st1.obj id).2.length := by rw [hg.obj id hid]; exact (List.getElem?_eq_some_iff.1 hx).1
    have fin : ∀ v : AV, Lw st.n st.k v (.d (.sl 1 xs)) → En Tryz.prog st (fun r s => r = .tup [] ∧ s = st) ⟨True, .tup []⟩ ((st1.setc id (splice (st1.obj id).2 off [v])).ext [] []) := fun v hv => by
      rw [St.ext_nil]
      refine ⟨trivial, .tup [], st.setc id (st.obj id).2, Drop.one id _ hg.n hg.k (fun j hj hne => ?_) hg.live ?_ ?_ (fun j a b ha hb => ?_), Lw.tupL .nil, rfl, St.setc_self st id⟩
      · rw [St.setc_obj, if_neg hne]; exact hg.obj j hj
      · rw [St.setc_obj, if_pos rfl, hg.obj id hid]
      · rw [St.setc_obj, if_pos rfl]; simp only; rw [splice_length _ _ _ hoff, hg.obj id hid]
      · rw [St.setc_obj, if_pos rfl] at ha
        simp only at ha
        rw [splice_get _ _ _ hoff, hg.obj id hid] at ha
        split at ha
        · exact .inl ⟨by rw [hb] at ha; cases ha; rfl, ha⟩
        · split at ha
          · rename_i h3 h4
            have : j = off := by simp only [List.length_singleton] at h4; omega
            subst this
            rw [hx] at hb; cases hb
            simp only [Nat.sub_self, List.getElem?_cons_zero, Option.some.injEq] at ha
            subst ha
            exact .inr hv
          · exact .inl ⟨by rw [hb] at ha; cases ha; rfl, ha⟩
    rcases h7 with ⟨h0, t7⟩ | ⟨tk, t7, k1, k2, k3⟩
    · simp -implicitDefEqProofs only [AWB, List.lookup_nil, ↓upd_hit, ↓upd_if, ↓reduceIte, List.nil_append, List.cons_append, List.length_cons, List.length_nil, List.getElem?_cons_zero, List.getElem?_cons_succ, Option.getD_some, Nat.reduceAdd, Nat.reduceLT, Nat.reduceLeDiff, Nat.reduceEqDiff, Nat.reduceBEq, ne_eq, reduceCtorEq, List.all_cons, List.all_nil, implies_true, List.getD_cons_zero, List.getD_cons_succ, List.append_eq, Int.reduceBEq, beq_self_eq_true, nd_165, t0, t1, t2, t6, t7, t8, e1, ext_obj_old _ _ _ _ hid1, hs1, hoff, ext_setc_old _ _ _ _ _ hid1]
      refine fin .nil ?_
      rw [List.eq_nil_of_length_eq_zero h0]
      exact .nilD _
    · simp -implicitDefEqProofs only [AWB, List.lookup_nil, ↓upd_hit, ↓upd_if, ↓reduceIte, List.nil_append, List.cons_append, List.length_cons, List.length_nil, List.getElem?_cons_zero, List.getElem?_cons_succ, Option.getD_some, Nat.reduceAdd, Nat.reduceLT, Nat.reduceLeDiff, Nat.reduceEqDiff, Nat.reduceBEq, ne_eq, reduceCtorEq, List.all_cons, List.all_nil, implies_true, List.getD_cons_zero, List.getD_cons_succ, List.append_eq, Int.reduceBEq, beq_self_eq_true, nd_165, t0, t1, t2, t6, t7, t8, e1, ext_obj_old _ _ _ _ hid1, hs1, hoff, ext_setc_old _ _ _ _ _ hid1]
      rw [List.take_length]
      exact fin (.own tk 1 xs) (.ownD _ _ _)

theorem list_194 (id off : Nat) (xs : List (List DV)) (one : AV) (st : St) (hid : id < st.n) (hx : (st.obj id).2[off]? = some (.d (.sl 1 xs))) (hl : ∀ x ∈ xs, x.length = 1) (hc : ∀ x ∈ xs, (x.map AV.d).all cellish = true)
    (hb : xs.length * 16 ≤ 140737488355328) (h1 : ∀ (st' : St) (j : Nat) (x : List DV), x ∈ xs → j < st'.n → (st'.obj j).2 = x.map .d → callA Tryz.prog one [still, .ptr j 0] st' (fun _ s => s = st')) :
    Ct Tryz.prog 194 [still, .ptr id off, one] st (fun r s => r = .tup [] ∧ s = st) := by
  refine Ct.of_textR mo Tryz.func194 rfl [] (by kernel_rfl) (by kernel_rfl) Tryz.ntmps194 (Nat.le_of_ble_eq_true rfl) Tryz.results194 ?_
  unfold still at *
  have hs : sub (st.obj id).2 off 1 false = ⟨True, .d (.sl 1 xs)⟩ := sub_get hx
  simp -implicitDefEqProofs only [AWB, List.lookup_nil, ↓upd_hit, ↓upd_if, ↓reduceIte, List.nil_append, List.cons_append, List.length_cons, List.length_nil, List.getElem?_cons_zero, List.getElem?_cons_succ, Option.getD_some, Nat.reduceAdd, Nat.reduceLT, Nat.reduceLeDiff, Nat.reduceEqDiff, Nat.reduceBEq, ne_eq, reduceCtorEq, List.all_cons, List.all_nil, implies_true, List.getD_cons_zero, List.getD_cons_succ, List.append_eq, Int.reduceBEq, beq_self_eq_true, nd_194, ext_obj_old _ _ _ _ hid, hs, nk_Len]
  refine Iv_ct me_Len (Len_ct _ _) rfl ?_
  simp -implicitDefEqProofs only [AWB, List.lookup_nil, ↓upd_hit, ↓upd_if, ↓reduceIte, List.nil_append, List.cons_append, List.length_cons, List.length_nil, List.getElem?_cons_zero, List.getElem?_cons_succ, Option.getD_some, Nat.reduceAdd, Nat.reduceLT, Nat.reduceLeDiff, Nat.reduceEqDiff, Nat.reduceBEq, ne_eq, reduceCtorEq, List.all_cons, List.all_nil, implies_true, List.getD_cons_zero, List.getD_cons_succ, List.append_eq, Int.reduceBEq, beq_self_eq_true, nd_194, ext_obj_old _ _ _ _ hid, hs, nk_Len]
  refine loopR_ext (fun n tm s => ∃ i : Nat, i ≤ xs.length ∧ n = xs.length - i ∧ tm 0 = .ifc 111 (.agg []) ∧ tm 1 = .ptr id off ∧ tm 2 = one ∧ tm 6 = .d (int xs.length) ∧ tm 8 = .d (int i) ∧ Grow st s ∧
      ((i = 0 ∧ tm 7 = .nil) ∨ ∃ tk, tm 7 = .own tk 1 (xs.take i) ∧ st.k ≤ tk ∧ tk < s.k ∧ s.live tk = some 9)) xs.length
    ⟨0, by omega, by omega, rfl, rfl, rfl, rfl, rfl, (Grow.refl st).ext [] [], .inl ⟨rfl, rfl⟩⟩ ?_
  rintro n tm st1 ⟨i, hi, hn, t0, t1, t2, t6, t8, hg, h7⟩
  have hid1 : id < st1.n := Nat.lt_of_lt_of_le hid hg.n
  have hs1 : sub (st1.obj id).2 off 1 false = ⟨True, .d (.sl 1 xs)⟩ := by rw [hg.obj id hid]; exact hs
  by_cases hlt : i < xs.length
  · have e1 : decide ((i : Int) < (xs.length : Int)) = true := by simp; omega
    have hm : xs[i] ∈ xs := List.getElem_mem hlt
    have hN : xs[i].length = 1 := hl _ hm
    have hie : ∀ (e n b : Nat) (k : IntKind), idxV (some (e, n, b)) (.d (.sl n xs)) (.d (.lit (.int k i))) = ⟨True, .pp (xs[i].map .d)⟩ := fun e n b k => idx_elem hlt
    have hse : sub (xs[i].map AV.d) 0 1 false = ⟨True, ldv false xs[i]⟩ := sub_elem hN (by decide)
    have hce : cellsL (ldv false xs[i]) = xs[i].map .d := cellsL_ldv (n := 1) hN (by decide)
    have hcc : (xs[i].map AV.d).all cellish = true := hc _ hm
    have hsp : ∀ cs : List AV, cs.length = 1 → splice cs 0 (xs[i].map AV.d) = xs[i].map .d := fun cs h => splice_all (by simp [h, hN])
    have e5 : IntKind.wrap .i64 ((i : Int) + 1) = ((i + 1 : Nat) : Int) := by rw [wrap_id _ (by omega) (by omega)]; omega
    simp -implicitDefEqProofs only [AWB, List.lookup_nil, ↓upd_hit, ↓upd_if, ↓reduceIte, List.nil_append, List.cons_append, List.length_cons, List.length_nil, List.getElem?_cons_zero, List.getElem?_cons_succ, Option.getD_some, Nat.reduceAdd, Nat.reduceLT, Nat.reduceLeDiff, Nat.reduceEqDiff, Nat.reduceBEq, ne_eq, reduceCtorEq, List.all_cons, List.all_nil, implies_true, List.getD_cons_zero, List.getD_cons_succ, List.append_eq, Int.reduceBEq, beq_self_eq_true, nd_194, t0, t1, t2, t6, t8, e1, ext_obj_old _ _ _ _ hid1, hs1]
    refine Iv_ct me_Bad (Bad_ct _) rfl ?_
    simp -implicitDefEqProofs only [AWB, List.lookup_nil, ↓upd_hit, ↓upd_if, ↓reduceIte, List.nil_append, List.cons_append, List.length_cons, List.length_nil, List.getElem?_cons_zero, List.getElem?_cons_succ, Option.getD_some, Nat.reduceAdd, Nat.reduceLT, Nat.reduceLeDiff, Nat.reduceEqDiff, Nat.reduceBEq, ne_eq, reduceCtorEq, List.all_cons, List.all_nil, implies_true, List.getD_cons_zero, List.getD_cons_succ, List.append_eq, Int.reduceBEq, beq_self_eq_true, nd_194, t0, t1, t2, t6, t8, e1, ext_obj_old _ _ _ _ hid1, hs1, hie, hse, hce, hcc, hN, List.length_map, hsp, ext_setc_new]
    refine Cl_val (fun _ s => s = st1.ext [(9, xs[i].map .d)] []) (h1 _ _ _ hm (by simp [ext_n]) (by rw [ext_obj_at]; rfl)) rfl ?_
    rintro v _ rfl
    rcases h7 with ⟨rfl, t7⟩ | ⟨tk, t7, k1, k2, k3⟩
    · simp -implicitDefEqProofs only [AWB, List.lookup_nil, ↓upd_hit, ↓upd_if, ↓reduceIte, List.nil_append, List.cons_append, List.length_cons, List.length_nil, List.getElem?_cons_zero, List.getElem?_cons_succ, Option.getD_some, Nat.reduceAdd, Nat.reduceLT, Nat.reduceLeDiff, Nat.reduceEqDiff, Nat.reduceBEq, ne_eq, reduceCtorEq, List.all_cons, List.all_nil, implies_true, List.getD_cons_zero, List.getD_cons_succ, List.append_eq, Int.reduceBEq, beq_self_eq_true, nd_194, t0, t1, t2, t6, t7, t8, hse, hce]
      refine Bs_d el_26 (toDss_one hce) zl_9 (by decide) (by decide) rfl rfl rfl (by simp only [List.all_cons, List.all_nil, hce, hcc, List.length_map, hN]; rfl) rfl ?_
      simp -implicitDefEqProofs only [AWB, List.lookup_nil, ↓upd_hit, ↓upd_if, ↓reduceIte, List.nil_append, List.cons_append, List.length_cons, List.length_nil, List.getElem?_cons_zero, List.getElem?_cons_succ, Option.getD_some, Nat.reduceAdd, Nat.reduceLT, Nat.reduceLeDiff, Nat.reduceEqDiff, Nat.reduceBEq, ne_eq, reduceCtorEq, List.all_cons, List.all_nil, implies_true, List.getD_cons_zero, List.getD_cons_succ, List.append_eq, Int.reduceBEq, beq_self_eq_true, nd_194, t0, t1, t2, t6, t7, t8, hse, hce]
      refine Ap_nil el_26 rfl (by decide) zl_9 (by intro y hy; simp only [List.mem_singleton] at hy; rw [hy]; exact hN) (by simp) (by simp) rfl ?_
      simp -implicitDefEqProofs only [AWB, List.lookup_nil, ↓upd_hit, ↓upd_if, ↓reduceIte, List.nil_append, List.cons_append, List.length_cons, List.length_nil, List.getElem?_cons_zero, List.getElem?_cons_succ, Option.getD_some, Nat.reduceAdd, Nat.reduceLT, Nat.reduceLeDiff, Nat.reduceEqDiff, Nat.reduceBEq, ne_eq, reduceCtorEq, List.all_cons, List.all_nil, implies_true, List.getD_cons_zero, List.getD_cons_succ, List.append_eq, Int.reduceBEq, beq_self_eq_true, nd_194, t0, t1, t2, t6, t7, t8, e5]
      exact LpR.intro (xs.length - 1) (by omega) ⟨1, by omega, rfl, t0, t1, t2, t6, rfl, hg.ext _ _, .inr ⟨st1.k + 1, by rw [List.take_succ_eq_append_getElem hlt]; rfl, by have := hg.k; omega, by simp [ext_k], ext_live_new _ _ _ 1 (by decide)⟩⟩
    · simp -implicitDefEqProofs only [AWB, List.lookup_nil, ↓upd_hit, ↓upd_if, ↓reduceIte, List.nil_append, List.cons_append, List.length_cons, List.length_nil, List.getElem?_cons_zero, List.getElem?_cons_succ, Option.getD_some, Nat.reduceAdd, Nat.reduceLT, Nat.reduceLeDiff, Nat.reduceEqDiff, Nat.reduceBEq, ne_eq, reduceCtorEq, List.all_cons, List.all_nil, implies_true, List.getD_cons_zero, List.getD_cons_succ, List.append_eq, Int.reduceBEq, beq_self_eq_true, nd_194, t0, t1, t2, t6, t7, t8, hse, hce]
      refine Bs_d el_26 (toDss_one hce) zl_9 (by decide) (by decide) rfl rfl rfl (by simp only [List.all_cons, List.all_nil, hce, hcc, List.length_map, hN]; rfl) rfl ?_
      simp -implicitDefEqProofs only [AWB, List.lookup_nil, ↓upd_hit, ↓upd_if, ↓reduceIte, List.nil_append, List.cons_append, List.length_cons, List.length_nil, List.getElem?_cons_zero, List.getElem?_cons_succ, Option.getD_some, Nat.reduceAdd, Nat.reduceLT, Nat.reduceLeDiff, Nat.reduceEqDiff, Nat.reduceBEq, ne_eq, reduceCtorEq, List.all_cons, List.all_nil, implies_true, List.getD_cons_zero, List.getD_cons_succ, List.append_eq, Int.reduceBEq, beq_self_eq_true, nd_194, t0, t1, t2, t6, t7, t8, hse, hce]
      refine Ap_own el_26 rfl (by decide) zl_9 (by intro y hy; simp only [List.mem_singleton] at hy; rw [hy]; exact hN) (by rw [ext_live_old _ _ _ _ k2]; exact k3) (by simp; omega) (by simp; omega) rfl ?_
      simp -implicitDefEqProofs only [AWB, List.lookup_nil, ↓upd_hit, ↓upd_if, ↓reduceIte, List.nil_append, List.cons_append, List.length_cons, List.length_nil, List.getElem?_cons_zero, List.getElem?_cons_succ, Option.getD_some, Nat.reduceAdd, Nat.reduceLT, Nat.reduceLeDiff, Nat.reduceEqDiff, Nat.reduceBEq, ne_eq, reduceCtorEq, List.all_cons, List.all_nil, implies_true, List.getD_cons_zero, List.getD_cons_succ, List.append_eq, Int.reduceBEq, beq_self_eq_true, nd_194, t0, t1, t2, t6, t7, t8, e5, ext_eat_old _ _ _ _ k2]
      exact LpR.intro (xs.length - (i + 1)) (by omega) ⟨i + 1, by omega, rfl, t0, t1, t2, t6, rfl, (hg.eat tk k1).ext _ _, .inr ⟨st1.k + 1, by rw [List.take_succ_eq_append_getElem hlt]; rfl, by have := hg.k; omega, by simp [ext_k, St.eat_k], ext_live_new _ _ _ 1 (by decide)⟩⟩
  · have e1 : decide ((i : Int) < (xs.length : Int)) = false := by simp; omega
    have : i = xs.length := by omega
    subst this
    have hoff : off + 1 ≤ (st1.obj id).2.length := by rw [hg.obj id hid]; exact (List.getElem?_eq_some_iff.1 hx).1
    have fin : ∀ v : AV, Lw st.n st.k v (.d (.sl 1 xs)) → En Tryz.prog st (fun r s => r = .tup [] ∧ s = st) ⟨True, .tup []⟩ ((st1.setc id (splice (st1.obj id).2 off [v])).ext [] []) := fun v hv => by
      rw [St.ext_nil]
      refine ⟨trivial, .tup [], st.setc id (st.obj id).2, Drop.one id _ hg.n hg.k (fun j hj hne => ?_) hg.live ?_ ?_ (fun j a b ha hb => ?_), Lw.tupL .nil, rfl, St.setc_self st id⟩
      · rw [St.setc_obj, if_neg hne]; exact hg.obj j hj
      · rw [St.setc_obj, if_pos rfl, hg.obj id hid]
      · rw [St.setc_obj, if_pos rfl]; simp only; rw [splice_length _ _ _ hoff, hg.obj id hid]
      · rw [St.setc_obj, if_pos rfl] at ha
        simp only at ha
        rw [splice_get _ _ _ hoff, hg.obj id hid] at ha
        split at ha
        · exact .inl ⟨by rw [hb] at ha; cases ha; rfl, ha⟩
        · split at ha
          · rename_i h3 h4
            have : j = off := by simp only [List.length_singleton] at h4; omega
            subst this
            rw [hx] at hb; cases hb
            simp only [Nat.sub_self, List.getElem?_cons_zero, Option.some.injEq] at ha
            subst ha
            exact .inr hv
          · exact .inl ⟨by rw [hb] at ha; cases ha; rfl, ha⟩
    rcases h7 with ⟨h0, t7⟩ | ⟨tk, t7, k1, k2, k3⟩
    · simp -implicitDefEqProofs only [AWB, List.lookup_nil, ↓upd_hit, ↓upd_if, ↓reduceIte, List.nil_append, List.cons_append, List.length_cons, List.length_nil, List.getElem?_cons_zero, List.getElem?_cons_succ, Option.getD_some, Nat.reduceAdd, Nat.reduceLT, Nat.reduceLeDiff, Nat.reduceEqDiff, Nat.reduceBEq, ne_eq, reduceCtorEq, List.all_cons, List.all_nil, implies_true, List.getD_cons_zero, List.getD_cons_succ, List.append_eq, Int.reduceBEq, beq_self_eq_true, nd_194, t0, t1, t2, t6, t7, t8, e1, ext_obj_old _ _ _ _ hid1, hs1, hoff, ext_setc_old _ _ _ _ _ hid1]
      refine fin .nil ?_
      rw [List.eq_nil_of_length_eq_zero h0]
      exact .nilD _
    · simp -implicitDefEqProofs only [AWB, List.lookup_nil, ↓upd_hit, ↓upd_if, ↓reduceIte, List.nil_append, List.cons_append, List.length_cons, List.length_nil, List.getElem?_cons_zero, List.getElem?_cons_succ, Option.getD_some, Nat.reduceAdd, Nat.reduceLT, Nat.reduceLeDiff, Nat.reduceEqDiff, Nat.reduceBEq, ne_eq, reduceCtorEq, List.all_cons, List.all_nil, implies_true, List.getD_cons_zero, List.getD_cons_succ, List.append_eq, Int.reduceBEq, beq_self_eq_true, nd_194, t0, t1, t2, t6, t7, t8, e1, ext_obj_old _ _ _ _ hid1, hs1, hoff, ext_setc_old _ _ _ _ _ hid1]
      rw [List.take_length]
      exact fin (.own tk 1 xs) (.ownD _ _ _)

theorem list_192 (id off : Nat) (xs : List (List DV)) (one : AV) (st : St) (hid : id < st.n) (hx : (st.obj id).2[off]? = some (.d (.sl 2 xs))) (hl : ∀ x ∈ xs, x.length = 2) (hc : ∀ x ∈ xs, (x.map AV.d).all cellish = true)
    (hb : xs.length * 32 ≤ 140737488355328) (h1 : ∀ (st' : St) (j : Nat) (x : List DV), x ∈ xs → j < st'.n → (st'.obj j).2 = x.map .d → callA Tryz.prog one [still, .ptr j 0] st' (fun _ s => s = st')) :
    Ct Tryz.prog 192 [still, .ptr id off, one] st (fun r s => r = .tup [] ∧ s = st) := by
  refine Ct.of_textR mo Tryz.func192 rfl [] (by kernel_rfl) (by kernel_rfl) Tryz.ntmps192 (Nat.le_of_ble_eq_true rfl) Tryz.results192 ?_
  unfold still at *
  have hs : sub (st.obj id).2 off 1 false = ⟨True, .d (.sl 2 xs)⟩ := sub_get hx
  simp -implicitDefEqProofs only [AWB, List.lookup_nil, ↓upd_hit, ↓upd_if, ↓reduceIte, List.nil_append, List.cons_append, List.length_cons, List.length_nil, List.getElem?_cons_zero, List.getElem?_cons_succ, Option.getD_some, Nat.reduceAdd, Nat.reduceLT, Nat.reduceLeDiff, Nat.reduceEqDiff, Nat.reduceBEq, ne_eq, reduceCtorEq, List.all_cons, List.all_nil, implies_true, List.getD_cons_zero, List.getD_cons_succ, List.append_eq, Int.reduceBEq, beq_self_eq_true, nd_192, ext_obj_old _ _ _ _ hid, hs, nk_Len]
  refine Iv_ct me_Len (Len_ct _ _) rfl ?_
  simp -implicitDefEqProofs only [AWB, List.lookup_nil, ↓upd_hit, ↓upd_if, ↓reduceIte, List.nil_append, List.cons_append, List.length_cons, List.length_nil, List.getElem?_cons_zero, List.getElem?_cons_succ, Option.getD_some, Nat.reduceAdd, Nat.reduceLT, Nat.reduceLeDiff, Nat.reduceEqDiff, Nat.reduceBEq, ne_eq, reduceCtorEq, List.all_cons, List.all_nil, implies_true, List.getD_cons_zero, List.getD_cons_succ, List.append_eq, Int.reduceBEq, beq_self_eq_true, nd_192, ext_obj_old _ _ _ _ hid, hs, nk_Len]
  refine loopR_ext (fun n tm s => ∃ i : Nat, i ≤ xs.length ∧ n = xs.length - i ∧ tm 0 = .ifc 111 (.agg []) ∧ tm 1 = .ptr id off ∧ tm 2 = one ∧ tm 6 = .d (int xs.length) ∧ tm 8 = .d (int i) ∧ Grow st s ∧
      ((i = 0 ∧ tm 7 = .nil) ∨ ∃ tk, tm 7 = .own tk 2 (xs.take i) ∧ st.k ≤ tk ∧ tk < s.k ∧ s.live tk = some 158)) xs.length
    ⟨0, by omega, by omega, rfl, rfl, rfl, rfl, rfl, (Grow.refl st).ext [] [], .inl ⟨rfl, rfl⟩⟩ ?_
  rintro n tm st1 ⟨i, hi, hn, t0, t1, t2, t6, t8, hg, h7⟩
  have hid1 : id < st1.n := Nat.lt_of_lt_of_le hid hg.n
  have hs1 : sub (st1.obj id).2 off 1 false = ⟨True, .d (.sl 2 xs)⟩ := by rw [hg.obj id hid]; exact hs
  by_cases hlt : i < xs.length
  · have e1 : decide ((i : Int) < (xs.length : Int)) = true := by simp; omega
    have hm : xs[i] ∈ xs := List.getElem_mem hlt
    have hN : xs[i].length = 2 := hl _ hm
    have hie : ∀ (e n b : Nat) (k : IntKind), idxV (some (e, n, b)) (.d (.sl n xs)) (.d (.lit (.int k i))) = ⟨True, .pp (xs[i].map .d)⟩ := fun e n b k => idx_elem hlt
    have hse : sub (xs[i].map AV.d) 0 2 true = ⟨True, ldv true xs[i]⟩ := sub_elem hN (by decide)
    have hce : cellsL (ldv true xs[i]) = xs[i].map .d := cellsL_ldv (n := 2) hN (by decide)
    have hcc : (xs[i].map AV.d).all cellish = true := hc _ hm
    have hsp : ∀ cs : List AV, cs.length = 2 → splice cs 0 (xs[i].map AV.d) = xs[i].map .d := fun cs h => splice_all (by simp [h, hN])
    have e5 : IntKind.wrap .i64 ((i : Int) + 1) = ((i + 1 : Nat) : Int) := by rw [wrap_id _ (by omega) (by omega)]; omega
    simp -implicitDefEqProofs only [AWB, List.lookup_nil, ↓upd_hit, ↓upd_if, ↓reduceIte, List.nil_append, List.cons_append, List.length_cons, List.length_nil, List.getElem?_cons_zero, List.getElem?_cons_succ, Option.getD_some, Nat.reduceAdd, Nat.reduceLT, Nat.reduceLeDiff, Nat.reduceEqDiff, Nat.reduceBEq, ne_eq, reduceCtorEq, List.all_cons, List.all_nil, implies_true, List.getD_cons_zero, List.getD_cons_succ, List.append_eq, Int.reduceBEq, beq_self_eq_true, nd_192, t0, t1, t2, t6, t8, e1, ext_obj_old _ _ _ _ hid1, hs1]
    refine Iv_ct me_Bad (Bad_ct _) rfl ?_
    simp -implicitDefEqProofs only [AWB, List.lookup_nil, ↓upd_hit, ↓upd_if, ↓reduceIte, List.nil_append, List.cons_append, List.length_cons, List.length_nil, List.getElem?_cons_zero, List.getElem?_cons_succ, Option.getD_some, Nat.reduceAdd, Nat.reduceLT, Nat.reduceLeDiff, Nat.reduceEqDiff, Nat.reduceBEq, ne_eq, reduceCtorEq, List.all_cons, List.all_nil, implies_true, List.getD_cons_zero, List.getD_cons_succ, List.append_eq, Int.reduceBEq, beq_self_eq_true, nd_192, t0, t1, t2, t6, t8, e1, ext_obj_old _ _ _ _ hid1, hs1, hie, hse, hce, hcc, hN, List.length_map, hsp, ext_setc_new]
    refine Cl_val (fun _ s => s = st1.ext [(158, xs[i].map .d)] []) (h1 _ _ _ hm (by simp [ext_n]) (by rw [ext_obj_at]; rfl)) rfl ?_
    rintro v _ rfl
    rcases h7 with ⟨rfl, t7⟩ | ⟨tk, t7, k1, k2, k3⟩
    · simp -implicitDefEqProofs only [AWB, List.lookup_nil, ↓upd_hit, ↓upd_if, ↓reduceIte, List.nil_append, List.cons_append, List.length_cons, List.length_nil, List.getElem?_cons_zero, List.getElem?_cons_succ, Option.getD_some, Nat.reduceAdd, Nat.reduceLT, Nat.reduceLeDiff, Nat.reduceEqDiff, Nat.reduceBEq, ne_eq, reduceCtorEq, List.all_cons, List.all_nil, implies_true, List.getD_cons_zero, List.getD_cons_succ, List.append_eq, Int.reduceBEq, beq_self_eq_true, nd_192, t0, t1, t2, t6, t7, t8, hse, hce]
      refine Bs_d el_23 (toDss_one hce) zl_158 (by decide) (by decide) rfl rfl rfl (by simp only [List.all_cons, List.all_nil, hce, hcc, List.length_map, hN]; rfl) rfl ?_
      simp -implicitDefEqProofs only [AWB, List.lookup_nil, ↓upd_hit, ↓upd_if, ↓reduceIte, List.nil_append, List.cons_append, List.length_cons, List.length_nil, List.getElem?_cons_zero, List.getElem?_cons_succ, Option.getD_some, Nat.reduceAdd, Nat.reduceLT, Nat.reduceLeDiff, Nat.reduceEqDiff, Nat.reduceBEq, ne_eq, reduceCtorEq, List.all_cons, List.all_nil, implies_true, List.getD_cons_zero, List.getD_cons_succ, List.append_eq, Int.reduceBEq, beq_self_eq_true, nd_192, t0, t1, t2, t6, t7, t8, hse, hce]
      refine Ap_nil el_23 rfl (by decide) zl_158 (by intro y hy; simp only [List.mem_singleton] at hy; rw [hy]; exact hN) (by simp) (by simp) rfl ?_
      simp -implicitDefEqProofs only [AWB, List.lookup_nil, ↓upd_hit, ↓upd_if, ↓reduceIte, List.nil_append, List.cons_append, List.length_cons, List.length_nil, List.getElem?_cons_zero, List.getElem?_cons_succ, Option.getD_some, Nat.reduceAdd, Nat.reduceLT, Nat.reduceLeDiff, Nat.reduceEqDiff, Nat.reduceBEq, ne_eq, reduceCtorEq, List.all_cons, List.all_nil, implies_true, List.getD_cons_zero, List.getD_cons_succ, List.append_eq, Int.reduceBEq, beq_self_eq_true, nd_192, t0, t1, t2, t6, t7, t8, e5]
      exact LpR.intro (xs.length - 1) (by omega) ⟨1, by omega, rfl, t0, t1, t2, t6, rfl, hg.ext _ _, .inr ⟨st1.k + 1, by rw [List.take_succ_eq_append_getElem hlt]; rfl, by have := hg.k; omega, by simp [ext_k], ext_live_new _ _ _ 1 (by decide)⟩⟩
    · simp -implicitDefEqProofs only [AWB, List.lookup_nil, ↓upd_hit, ↓upd_if, ↓reduceIte, List.nil_append, List.cons_append, List.length_cons, List.length_nil, List.getElem?_cons_zero, List.getElem?_cons_succ, Option.getD_some, Nat.reduceAdd, Nat.reduceLT, Nat.reduceLeDiff, Nat.reduceEqDiff, Nat.reduceBEq, ne_eq, reduceCtorEq, List.all_cons, List.all_nil, implies_true, List.getD_cons_zero, List.getD_cons_succ, List.append_eq, Int.reduceBEq, beq_self_eq_true, nd_192, t0, t1, t2, t6, t7, t8, hse, hce]
      refine Bs_d el_23 (toDss_one hce) zl_158 (by decide) (by decide) rfl rfl rfl (by simp only [List.all_cons, List.all_nil, hce, hcc, List.length_map, hN]; rfl) rfl ?_
      simp -implicitDefEqProofs only [AWB, List.lookup_nil, ↓upd_hit, ↓upd_if, ↓reduceIte, List.nil_append, List.cons_append, List.length_cons, List.length_nil, List.getElem?_cons_zero, List.getElem?_cons_succ, Option.getD_some, Nat.reduceAdd, Nat.reduceLT, Nat.reduceLeDiff, Nat.reduceEqDiff, Nat.reduceBEq, ne_eq, reduceCtorEq, List.all_cons, List.all_nil, implies_true, List.getD_cons_zero, List.getD_cons_succ, List.append_eq, Int.reduceBEq, beq_self_eq_true, nd_192, t0, t1, t2, t6, t7, t8, hse, hce]
      refine Ap_own el_23 rfl (by decide) zl_158 (by intro y hy; simp only [List.mem_singleton] at hy; rw [hy]; exact hN) (by rw [ext_live_old _ _ _ _ k2]; exact k3) (by simp; omega) (by simp; omega) rfl ?_
      simp -implicitDefEqProofs only [AWB, List.lookup_nil, ↓upd_hit, ↓upd_if, ↓reduceIte, List.nil_append, List.cons_append, List.length_cons, List.length_nil, List.getElem?_cons_zero, List.getElem?_cons_succ, Option.getD_some, Nat.reduceAdd, Nat.reduceLT, Nat.reduceLeDiff, Nat.reduceEqDiff, Nat.reduceBEq, ne_eq, reduceCtorEq, List.all_cons, List.all_nil, implies_true, List.getD_cons_zero, List.getD_cons_succ, List.append_eq, Int.reduceBEq, beq_self_eq_true, nd_192, t0, t1, t2, t6, t7, t8, e5, ext_eat_old _ _ _ _ k2]
      exact LpR.intro (xs.length - (i + 1)) (by omega) ⟨i + 1, by omega, rfl, t0, t1, t2, t6, rfl, (hg.eat tk k1).ext _ _, .inr ⟨st1.k + 1, by rw [List.take_succ_eq_append_getElem hlt]; rfl, by have := hg.k; omega, by simp [ext_k, St.eat_k], ext_live_new _ _ _ 1 (by decide)⟩⟩
  · have e1 : decide ((i : Int) < (xs.length : Int)) = false := by simp; omega
    have : i = xs.length := by omega
    subst this
    have hoff : off + 1 ≤ (st1.obj id).2.length := by rw [hg.obj id hid]; exact (List.getElem?_eq_some_iff.1 hx).1
    have fin : ∀ v : AV, Lw st.n st.k v (.d (.sl 2 xs)) → En Tryz.prog st (fun r s => r = .tup [] ∧ s = st) ⟨True, .tup []⟩ ((st1.setc id (splice (st1.obj id).2 off [v])).ext [] []) := fun v hv => by
      rw [St.ext_nil]
      refine ⟨trivial, .tup [], st.setc id (st.obj id).2, Drop.one id _ hg.n hg.k (fun j hj hne => ?_) hg.live ?_ ?_ (fun j a b ha hb => ?_), Lw.tupL .nil, rfl, St.setc_self st id⟩
      · rw [St.setc_obj, if_neg hne]; exact hg.obj j hj
      · rw [St.setc_obj, if_pos rfl, hg.obj id hid]
      · rw [St.setc_obj, if_pos rfl]; simp only; rw [splice_length _ _ _ hoff, hg.obj id hid]
      · rw [St.setc_obj, if_pos rfl] at ha
        simp only at ha
        rw [splice_get _ _ _ hoff, hg.obj id hid] at ha
        split at ha
        · exact .inl ⟨by rw [hb] at ha; cases ha; rfl, ha⟩
        · split at ha
          · rename_i h3 h4
            have : j = off := by simp only [List.length_singleton] at h4; omega
            subst this
            rw [hx] at hb; cases hb
            simp only [Nat.sub_self, List.getElem?_cons_zero, Option.some.injEq] at ha
            subst ha
            exact .inr hv
          · exact .inl ⟨by rw [hb] at ha; cases ha; rfl, ha⟩
    rcases h7 with ⟨h0, t7⟩ | ⟨tk, t7, k1, k2, k3⟩
    · simp -implicitDefEqProofs only [AWB, List.lookup_nil, ↓upd_hit, ↓upd_if, ↓reduceIte, List.nil_append, List.cons_append, List.length_cons, List.length_nil, List.getElem?_cons_zero, List.getElem?_cons_succ, Option.getD_some, Nat.reduceAdd, Nat.reduceLT, Nat.reduceLeDiff, Nat.reduceEqDiff, Nat.reduceBEq, ne_eq, reduceCtorEq, List.all_cons, List.all_nil, implies_true, List.getD_cons_zero, List.getD_cons_succ, List.append_eq, Int.reduceBEq, beq_self_eq_true, nd_192, t0, t1, t2, t6, t7, t8, e1, ext_obj_old _ _ _ _ hid1, hs1, hoff, ext_setc_old _ _ _ _ _ hid1]
      refine fin .nil ?_
      rw [List.eq_nil_of_length_eq_zero h0]
      exact .nilD _
    · simp -implicitDefEqProofs only [AWB, List.lookup_nil, ↓upd_hit, ↓upd_if, ↓reduceIte, List.nil_append, List.cons_append, List.length_cons, List.length_nil, List.getElem?_cons_zero, List.getElem?_cons_succ, Option.getD_some, Nat.reduceAdd, Nat.reduceLT, Nat.reduceLeDiff, Nat.reduceEqDiff, Nat.reduceBEq, ne_eq, reduceCtorEq, List.all_cons, List.all_nil, implies_true, List.getD_cons_zero, List.getD_cons_succ, List.append_eq, Int.reduceBEq, beq_self_eq_true, nd_192, t0, t1, t2, t6, t7, t8, e1, ext_obj_old _ _ _ _ hid1, hs1, hoff, ext_setc_old _ _ _ _ _ hid1]
      rw [List.take_length]
      exact fin (.own tk 2 xs) (.ownD _ _ _)

theorem list_156 (id off : Nat) (xs : List (List DV)) (one : AV) (st : St) (hid : id < st.n) (hx : (st.obj id).2[off]? = some (.d (.sl 2 xs))) (hl : ∀ x ∈ xs, x.length = 2) (hc : ∀ x ∈ xs, (x.map AV.d).all cellish = true)
    (hb : xs.length * 24 ≤ 140737488355328) (h1 : ∀ (st' : St) (j : Nat) (x : List DV), x ∈ xs → j < st'.n → (st'.obj j).2 = x.map .d → callA Tryz.prog one [still, .ptr j 0] st' (fun _ s => s = st')) :
    Ct Tryz.prog 156 [still, .ptr id off, one] st (fun r s => r = .tup [] ∧ s = st) := by
  refine Ct.of_textR mo Tryz.func156 rfl [] (by kernel_rfl) (by kernel_rfl) Tryz.ntmps156 (Nat.le_of_ble_eq_true rfl) Tryz.results156 ?_
  unfold still at *
  have hs : sub (st.obj id).2 off 1 false = ⟨True, .d (.sl 2 xs)⟩ := sub_get hx
  simp -implicitDefEqProofs only [AWB, List.lookup_nil, ↓upd_hit, ↓upd_if, ↓reduceIte, List.nil_append, List.cons_append, List.length_cons, List.length_nil, List.getElem?_cons_zero, List.getElem?_cons_succ, Option.getD_some, Nat.reduceAdd, Nat.reduceLT, Nat.reduceLeDiff, Nat.reduceEqDiff, Nat.reduceBEq, ne_eq, reduceCtorEq, List.all_cons, List.all_nil, implies_true, List.getD_cons_zero, List.getD_cons_succ, List.append_eq, Int.reduceBEq, beq_self_eq_true, nd_156, ext_obj_old _ _ _ _ hid, hs, nk_Len]
  refine Iv_ct me_Len (Len_ct _ _) rfl ?_
  simp -implicitDefEqProofs only [AWB, List.lookup_nil, ↓upd_hit, ↓upd_if, ↓reduceIte, List.nil_append, List.cons_append, List.length_cons, List.length_nil, List.getElem?_cons_zero, List.getElem?_cons_succ, Option.getD_some, Nat.reduceAdd, Nat.reduceLT, Nat.reduceLeDiff, Nat.reduceEqDiff, Nat.reduceBEq, ne_eq, reduceCtorEq, List.all_cons, List.all_nil, implies_true, List.getD_cons_zero, List.getD_cons_succ, List.append_eq, Int.reduceBEq, beq_self_eq_true, nd_156, ext_obj_old _ _ _ _ hid, hs, nk_Len]
  refine loopR_ext (fun n tm s => ∃ i : Nat, i ≤ xs.length ∧ n = xs.length - i ∧ tm 0 = .ifc 111 (.agg []) ∧ tm 1 = .ptr id off ∧ tm 2 = one ∧ tm 6 = .d (int xs.length) ∧ tm 8 = .d (int i) ∧ Grow st s ∧
      ((i = 0 ∧ tm 7 = .nil) ∨ ∃ tk, tm 7 = .own tk 2 (xs.take i) ∧ st.k ≤ tk ∧ tk < s.k ∧ s.live tk = some 162)) xs.length
    ⟨0, by omega, by omega, rfl, rfl, rfl, rfl, rfl, (Grow.refl st).ext [] [], .inl ⟨rfl, rfl⟩⟩ ?_
  rintro n tm st1 ⟨i, hi, hn, t0, t1, t2, t6, t8, hg, h7⟩
  have hid1 : id < st1.n := Nat.lt_of_lt_of_le hid hg.n
  have hs1 : sub (st1.obj id).2 off 1 false = ⟨True, .d (.sl 2 xs)⟩ := by rw [hg.obj id hid]; exact hs
  by_cases hlt : i < xs.length
  · have e1 : decide ((i : Int) < (xs.length : Int)) = true := by simp; omega
    have hm : xs[i] ∈ xs := List.getElem_mem hlt
    have hN : xs[i].length = 2 := hl _ hm
    have hie : ∀ (e n b : Nat) (k : IntKind), idxV (some (e, n, b)) (.d (.sl n xs)) (.d (.lit (.int k i))) = ⟨True, .pp (xs[i].map .d)⟩ := fun e n b k => idx_elem hlt
    have hse : sub (xs[i].map AV.d) 0 2 true = ⟨True, ldv true xs[i]⟩ := sub_elem hN (by decide)
    have hce : cellsL (ldv true xs[i]) = xs[i].map .d := cellsL_ldv (n := 2) hN (by decide)
    have hcc : (xs[i].map AV.d).all cellish = true := hc _ hm
    have hsp : ∀ cs : List AV, cs.length = 2 → splice cs 0 (xs[i].map AV.d) = xs[i].map .d := fun cs h => splice_all (by simp [h, hN])
    have e5 : IntKind.wrap .i64 ((i : Int) + 1) = ((i + 1 : Nat) : Int) := by rw [wrap_id _ (by omega) (by omega)]; omega
    simp -implicitDefEqProofs only [AWB, List.lookup_nil, ↓upd_hit, ↓upd_if, ↓reduceIte, List.nil_append, List.cons_append, List.length_cons, List.length_nil, List.getElem?_cons_zero, List.getElem?_cons_succ, Option.getD_some, Nat.reduceAdd, Nat.reduceLT, Nat.reduceLeDiff, Nat.reduceEqDiff, Nat.reduceBEq, ne_eq, reduceCtorEq, List.all_cons, List.all_nil, implies_true, List.getD_cons_zero, List.getD_cons_succ, List.append_eq, Int.reduceBEq, beq_self_eq_true, nd_156, t0, t1, t2, t6, t8, e1, ext_obj_old _ _ _ _ hid1, hs1]
    refine Iv_ct me_Bad (Bad_ct _) rfl ?_
    simp -implicitDefEqProofs only [AWB, List.lookup_nil, ↓upd_hit, ↓upd_if, ↓reduceIte, List.nil_append, List.cons_append, List.length_cons, List.length_nil, List.getElem?_cons_zero, List.getElem?_cons_succ, Option.getD_some, Nat.reduceAdd, Nat.reduceLT, Nat.reduceLeDiff, Nat.reduceEqDiff, Nat.reduceBEq, ne_eq, reduceCtorEq, List.all_cons, List.all_nil, implies_true, List.getD_cons_zero, List.getD_cons_succ, List.append_eq, Int.reduceBEq, beq_self_eq_true, nd_156, t0, t1, t2, t6, t8, e1, ext_obj_old _ _ _ _ hid1, hs1, hie, hse, hce, hcc, hN, List.length_map, hsp, ext_setc_new]
    refine Cl_val (fun _ s => s = st1.ext [(162, xs[i].map .d)] []) (h1 _ _ _ hm (by simp [ext_n]) (by rw [ext_obj_at]; rfl)) rfl ?_
    rintro v _ rfl
    rcases h7 with ⟨rfl, t7⟩ | ⟨tk, t7, k1, k2, k3⟩
    · simp -implicitDefEqProofs only [AWB, List.lookup_nil, ↓upd_hit, ↓upd_if, ↓reduceIte, List.nil_append, List.cons_append, List.length_cons, List.length_nil, List.getElem?_cons_zero, List.getElem?_cons_succ, Option.getD_some, Nat.reduceAdd, Nat.reduceLT, Nat.reduceLeDiff, Nat.reduceEqDiff, Nat.reduceBEq, ne_eq, reduceCtorEq, List.all_cons, List.all_nil, implies_true, List.getD_cons_zero, List.getD_cons_succ, List.append_eq, Int.reduceBEq, beq_self_eq_true, nd_156, t0, t1, t2, t6, t7, t8, hse, hce]
      refine Bs_d el_22 (toDss_one hce) zl_162 (by decide) (by decide) rfl rfl rfl (by simp only [List.all_cons, List.all_nil, hce, hcc, List.length_map, hN]; rfl) rfl ?_
      simp -implicitDefEqProofs only [AWB, List.lookup_nil, ↓upd_hit, ↓upd_if, ↓reduceIte, List.nil_append, List.cons_append, List.length_cons, List.length_nil, List.getElem?_cons_zero, List.getElem?_cons_succ, Option.getD_some, Nat.reduceAdd, Nat.reduceLT, Nat.reduceLeDiff, Nat.reduceEqDiff, Nat.reduceBEq, ne_eq, reduceCtorEq, List.all_cons, List.all_nil, implies_true, List.getD_cons_zero, List.getD_cons_succ, List.append_eq, Int.reduceBEq, beq_self_eq_true, nd_156, t0, t1, t2, t6, t7, t8, hse, hce]
      refine Ap_nil el_22 rfl (by decide) zl_162 (by intro y hy; simp only [List.mem_singleton] at hy; rw [hy]; exact hN) (by simp) (by simp) rfl ?_
      simp -implicitDefEqProofs only [AWB, List.lookup_nil, ↓upd_hit, ↓upd_if, ↓reduceIte, List.nil_append, List.cons_append, List.length_cons, List.length_nil, List.getElem?_cons_zero, List.getElem?_cons_succ, Option.getD_some, Nat.reduceAdd, Nat.reduceLT, Nat.reduceLeDiff, Nat.reduceEqDiff, Nat.reduceBEq, ne_eq, reduceCtorEq, List.all_cons, List.all_nil, implies_true, List.getD_cons_zero, List.getD_cons_succ, List.append_eq, Int.reduceBEq, beq_self_eq_true, nd_156, t0, t1, t2, t6, t7, t8, e5]
      exact LpR.intro (xs.length - 1) (by omega) ⟨1, by omega, rfl, t0, t1, t2, t6, rfl, hg.ext _ _, .inr ⟨st1.k + 1, by rw [List.take_succ_eq_append_getElem hlt]; rfl, by have := hg.k; omega, by simp [ext_k], ext_live_new _ _ _ 1 (by decide)⟩⟩
    · simp -implicitDefEqProofs only [AWB, List.lookup_nil, ↓upd_hit, ↓upd_if, ↓reduceIte, List.nil_append, List.cons_append, List.length_cons, List.length_nil, List.getElem?_cons_zero, List.getElem?_cons_succ, Option.getD_some, Nat.reduceAdd, Nat.reduceLT, Nat.reduceLeDiff, Nat.reduceEqDiff, Nat.reduceBEq, ne_eq, reduceCtorEq, List.all_cons, List.all_nil, implies_true, List.getD_cons_zero, List.getD_cons_succ, List.append_eq, Int.reduceBEq, beq_self_eq_true, nd_156, t0, t1, t2, t6, t7, t8, hse, hce]
      refine Bs_d el_22 (toDss_one hce) zl_162 (by decide) (by decide) rfl rfl rfl (by simp only [List.all_cons, List.all_nil, hce, hcc, List.length_map, hN]; rfl) rfl ?_
      simp -implicitDefEqProofs only [AWB, List.lookup_nil, ↓upd_hit, ↓upd_if, ↓reduceIte, List.nil_append, List.cons_append, List.length_cons, List.length_nil, List.getElem?_cons_zero, List.getElem?_cons_succ, Option.getD_some, Nat.reduceAdd, Nat.reduceLT, Nat.reduceLeDiff, Nat.reduceEqDiff, Nat.reduceBEq, ne_eq, reduceCtorEq, List.all_cons, List.all_nil, implies_true, List.getD_cons_zero, List.getD_cons_succ, List.append_eq, Int.reduceBEq, beq_self_eq_true, nd_156, t0, t1, t2, t6, t7, t8, hse, hce]
      refine Ap_own el_22 rfl (by decide) zl_162 (by intro y hy; simp only [List.mem_singleton] at hy; rw [hy]; exact hN) (by rw [ext_live_old _ _ _ _ k2]; exact k3) (by simp; omega) (by simp; omega) rfl ?_
      simp -implicitDefEqProofs only [AWB, List.lookup_nil, ↓upd_hit, ↓upd_if, ↓reduceIte, List.nil_append, List.cons_append, List.length_cons, List.length_nil, List.getElem?_cons_zero, List.getElem?_cons_succ, Option.getD_some, Nat.reduceAdd, Nat.reduceLT, Nat.reduceLeDiff, Nat.reduceEqDiff, Nat.reduceBEq, ne_eq, reduceCtorEq, List.all_cons, List.all_nil, implies_true, List.getD_cons_zero, List.getD_cons_succ, List.append_eq, Int.reduceBEq, beq_self_eq_true, nd_156, t0, t1, t2, t6, t7, t8, e5, ext_eat_old _ _ _ _ k2]
      exact LpR.intro (xs.length - (i + 1)) (by omega) ⟨i + 1, by omega, rfl, t0, t1, t2, t6, rfl, (hg.eat tk k1).ext _ _, .inr ⟨st1.k + 1, by rw [List.take_succ_eq_append_getElem hlt]; rfl, by have := hg.k; omega, by simp [ext_k, St.eat_k], ext_live_new _ _ _ 1 (by decide)⟩⟩
  · have e1 : decide ((i : Int) < (xs.length : Int)) = false := by simp; omega
    have : i = xs.length := by omega
    subst this
    have hoff : off + 1 ≤ (st1.obj id).2.length := by rw [hg.obj id hid]; exact (List.getElem?_eq_some_iff.1 hx).1
    have fin : ∀ v : AV, Lw st.n st.k v (.d (.sl 2 xs)) → En Tryz.prog st (fun r s => r = .tup [] ∧ s = st) ⟨True, .tup []⟩ ((st1.setc id (splice (st1.obj id).2 off [v])).ext [] []) := fun v hv => by
      rw [St.ext_nil]
      refine ⟨trivial, .tup [], st.setc id (st.obj id).2, Drop.one id _ hg.n hg.k (fun j hj hne => ?_) hg.live ?_ ?_ (fun j a b ha hb => ?_), Lw.tupL .nil, rfl, St.setc_self st id⟩
      · rw [St.setc_obj, if_neg hne]; exact hg.obj j hj
      · rw [St.setc_obj, if_pos rfl, hg.obj id hid]
      · rw [St.setc_obj, if_pos rfl]; simp only; rw [splice_length _ _ _ hoff, hg.obj id hid]
      · rw [St.setc_obj, if_pos rfl] at ha
        simp only at ha
        rw [splice_get _ _ _ hoff, hg.obj id hid] at ha
        split at ha
        · exact .inl ⟨by rw [hb] at ha; cases ha; rfl, ha⟩
        · split at ha
          · rename_i h3 h4
            have : j = off := by simp only [List.length_singleton] at h4; omega
            subst this
            rw [hx] at hb; cases hb
            simp only [Nat.sub_self, List.getElem?_cons_zero, Option.some.injEq] at ha
            subst ha
            exact .inr hv
          · exact .inl ⟨by rw [hb] at ha; cases ha; rfl, ha⟩
    rcases h7 with ⟨h0, t7⟩ | ⟨tk, t7, k1, k2, k3⟩
    · simp -implicitDefEqProofs only [AWB, List.lookup_nil, ↓upd_hit, ↓upd_if, ↓reduceIte, List.nil_append, List.cons_append, List.length_cons, List.length_nil, List.getElem?_cons_zero, List.getElem?_cons_succ, Option.getD_some, Nat.reduceAdd, Nat.reduceLT, Nat.reduceLeDiff, Nat.reduceEqDiff, Nat.reduceBEq, ne_eq, reduceCtorEq, List.all_cons, List.all_nil, implies_true, List.getD_cons_zero, List.getD_cons_succ, List.append_eq, Int.reduceBEq, beq_self_eq_true, nd_156, t0, t1, t2, t6, t7, t8, e1, ext_obj_old _ _ _ _ hid1, hs1, hoff, ext_setc_old _ _ _ _ _ hid1]
      refine fin .nil ?_
      rw [List.eq_nil_of_length_eq_zero h0]
      exact .nilD _
    · simp -implicitDefEqProofs only [AWB, List.lookup_nil, ↓upd_hit, ↓upd_if, ↓reduceIte, List.nil_append, List.cons_append, List.length_cons, List.length_nil, List.getElem?_cons_zero, List.getElem?_cons_succ, Option.getD_some, Nat.reduceAdd, Nat.reduceLT, Nat.reduceLeDiff, Nat.reduceEqDiff, Nat.reduceBEq, ne_eq, reduceCtorEq, List.all_cons, List.all_nil, implies_true, List.getD_cons_zero, List.getD_cons_succ, List.append_eq, Int.reduceBEq, beq_self_eq_true, nd_156, t0, t1, t2, t6, t7, t8, e1, ext_obj_old _ _ _ _ hid1, hs1, hoff, ext_setc_old _ _ _ _ _ hid1]
      rw [List.take_length]
      exact fin (.own tk 2 xs) (.ownD _ _ _)

theorem list_159 (id off : Nat) (xs : List (List DV)) (one : AV) (st : St) (hid : id < st.n) (hx : (st.obj id).2[off]? = some (.d (.sl 2 xs))) (hl : ∀ x ∈ xs, x.length = 2) (hc : ∀ x ∈ xs, (x.map AV.d).all cellish = true)
    (hb : xs.length * 32 ≤ 140737488355328) (h1 : ∀ (st' : St) (j : Nat) (x : List DV), x ∈ xs → j < st'.n → (st'.obj j).2 = x.map .d → callA Tryz.prog one [still, .ptr j 0] st' (fun _ s => s = st')) :
    Ct Tryz.prog 159 [still, .ptr id off, one] st (fun r s => r = .tup [] ∧ s = st) := by
  refine Ct.of_textR mo Tryz.func159 rfl [] (by kernel_rfl) (by kernel_rfl) Tryz.ntmps159 (Nat.le_of_ble_eq_true rfl) Tryz.results159 ?_
  unfold still at *
  have hs : sub (st.obj id).2 off 1 false = ⟨True, .d (.sl 2 xs)⟩ := sub_get hx
  simp -implicitDefEqProofs only [AWB, List.lookup_nil, ↓upd_hit, ↓upd_if, ↓reduceIte, List.nil_append, List.cons_append, List.length_cons, List.length_nil, List.getElem?_cons_zero, List.getElem?_cons_succ, Option.getD_some, Nat.reduceAdd, Nat.reduceLT, Nat.reduceLeDiff, Nat.reduceEqDiff, Nat.reduceBEq, ne_eq, reduceCtorEq, List.all_cons, List.all_nil, implies_true, List.getD_cons_zero, List.getD_cons_succ, List.append_eq, Int.reduceBEq, beq_self_eq_true, nd_159, ext_obj_old _ _ _ _ hid, hs, nk_Len]
  refine Iv_ct me_Len (Len_ct _ _) rfl ?_
  simp -implicitDefEqProofs only [AWB, List.lookup_nil, ↓upd_hit, ↓upd_if, ↓reduceIte, List.nil_append, List.cons_append, List.length_cons, List.length_nil, List.getElem?_cons_zero, List.getElem?_cons_succ, Option.getD_some, Nat.reduceAdd, Nat.reduceLT, Nat.reduceLeDiff, Nat.reduceEqDiff, Nat.reduceBEq, ne_eq, reduceCtorEq, List.all_cons, List.all_nil, implies_true, List.getD_cons_zero, List.getD_cons_succ, List.append_eq, Int.reduceBEq, beq_self_eq_true, nd_159, ext_obj_old _ _ _ _ hid, hs, nk_Len]
  refine loopR_ext (fun n tm s => ∃ i : Nat, i ≤ xs.length ∧ n = xs.length - i ∧ tm 0 = .ifc 111 (.agg []) ∧ tm 1 = .ptr id off ∧ tm 2 = one ∧ tm 6 = .d (int xs.length) ∧ tm 8 = .d (int i) ∧ Grow st s ∧
      ((i = 0 ∧ tm 7 = .nil) ∨ ∃ tk, tm 7 = .own tk 2 (xs.take i) ∧ st.k ≤ tk ∧ tk < s.k ∧ s.live tk = some 160)) xs.length
    ⟨0, by omega, by omega, rfl, rfl, rfl, rfl, rfl, (Grow.refl st).ext [] [], .inl ⟨rfl, rfl⟩⟩ ?_
  rintro n tm st1 ⟨i, hi, hn, t0, t1, t2, t6, t8, hg, h7⟩
  have hid1 : id < st1.n := Nat.lt_of_lt_of_le hid hg.n
  have hs1 : sub (st1.obj id).2 off 1 false = ⟨True, .d (.sl 2 xs)⟩ := by rw [hg.obj id hid]; exact hs
  by_cases hlt : i < xs.length
  · have e1 : decide ((i : Int) < (xs.length : Int)) = true := by simp; omega
    have hm : xs[i] ∈ xs := List.getElem_mem hlt
    have hN : xs[i].length = 2 := hl _ hm
    have hie : ∀ (e n b : Nat) (k : IntKind), idxV (some (e, n, b)) (.d (.sl n xs)) (.d (.lit (.int k i))) = ⟨True, .pp (xs[i].map .d)⟩ := fun e n b k => idx_elem hlt
    have hse : sub (xs[i].map AV.d) 0 2 true = ⟨True, ldv true xs[i]⟩ := sub_elem hN (by decide)
    have hce : cellsL (ldv true xs[i]) = xs[i].map .d := cellsL_ldv (n := 2) hN (by decide)
    have hcc : (xs[i].map AV.d).all cellish = true := hc _ hm
    have hsp : ∀ cs : List AV, cs.length = 2 → splice cs 0 (xs[i].map AV.d) = xs[i].map .d := fun cs h => splice_all (by simp [h, hN])
    have e5 : IntKind.wrap .i64 ((i : Int) + 1) = ((i + 1 : Nat) : Int) := by rw [wrap_id _ (by omega) (by omega)]; omega
    simp -implicitDefEqProofs only [AWB, List.lookup_nil, ↓upd_hit, ↓upd_if, ↓reduceIte, List.nil_append, List.cons_append, List.length_cons, List.length_nil, List.getElem?_cons_zero, List.getElem?_cons_succ, Option.getD_some, Nat.reduceAdd, Nat.reduceLT, Nat.reduceLeDiff, Nat.reduceEqDiff, Nat.reduceBEq, ne_eq, reduceCtorEq, List.all_cons, List.all_nil, implies_true, List.getD_cons_zero, List.getD_cons_succ, List.append_eq, Int.reduceBEq, beq_self_eq_true, nd_159, t0, t1, t2, t6, t8, e1, ext_obj_old _ _ _ _ hid1, hs1]
    refine Iv_ct me_Bad (Bad_ct _) rfl ?_
    simp -implicitDefEqProofs only [AWB, List.lookup_nil, ↓upd_hit, ↓upd_if, ↓reduceIte, List.nil_append, List.cons_append, List.length_cons, List.length_nil, List.getElem?_cons_zero, List.getElem?_cons_succ, Option.getD_some, Nat.reduceAdd, Nat.reduceLT, Nat.reduceLeDiff, Nat.reduceEqDiff, Nat.reduceBEq, ne_eq, reduceCtorEq, List.all_cons, List.all_nil, implies_true, List.getD_cons_zero, List.getD_cons_succ, List.append_eq, Int.reduceBEq, beq_self_eq_true, nd_159, t0, t1, t2, t6, t8, e1, ext_obj_old _ _ _ _ hid1, hs1, hie, hse, hce, hcc, hN, List.length_map, hsp, ext_setc_new]
    refine Cl_val (fun _ s => s = st1.ext [(160, xs[i].map .d)] []) (h1 _ _ _ hm (by simp [ext_n]) (by rw [ext_obj_at]; rfl)) rfl ?_
    rintro v _ rfl
    rcases h7 with ⟨rfl, t7⟩ | ⟨tk, t7, k1, k2, k3⟩
    · simp -implicitDefEqProofs only [AWB, List.lookup_nil, ↓upd_hit, ↓upd_if, ↓reduceIte, List.nil_append, List.cons_append, List.length_cons, List.length_nil, List.getElem?_cons_zero, List.getElem?_cons_succ, Option.getD_some, Nat.reduceAdd, Nat.reduceLT, Nat.reduceLeDiff, Nat.reduceEqDiff, Nat.reduceBEq, ne_eq, reduceCtorEq, List.all_cons, List.all_nil, implies_true, List.getD_cons_zero, List.getD_cons_succ, List.append_eq, Int.reduceBEq, beq_self_eq_true, nd_159, t0, t1, t2, t6, t7, t8, hse, hce]
      refine Bs_d el_25 (toDss_one hce) zl_160 (by decide) (by decide) rfl rfl rfl (by simp only [List.all_cons, List.all_nil, hce, hcc, List.length_map, hN]; rfl) rfl ?_
      simp -implicitDefEqProofs only [AWB, List.lookup_nil, ↓upd_hit, ↓upd_if, ↓reduceIte, List.nil_append, List.cons_append, List.length_cons, List.length_nil, List.getElem?_cons_zero, List.getElem?_cons_succ, Option.getD_some, Nat.reduceAdd, Nat.reduceLT, Nat.reduceLeDiff, Nat.reduceEqDiff, Nat.reduceBEq, ne_eq, reduceCtorEq, List.all_cons, List.all_nil, implies_true, List.getD_cons_zero, List.getD_cons_succ, List.append_eq, Int.reduceBEq, beq_self_eq_true, nd_159, t0, t1, t2, t6, t7, t8, hse, hce]
      refine Ap_nil el_25 rfl (by decide) zl_160 (by intro y hy; simp only [List.mem_singleton] at hy; rw [hy]; exact hN) (by simp) (by simp) rfl ?_
      simp -implicitDefEqProofs only [AWB, List.lookup_nil, ↓upd_hit, ↓upd_if, ↓reduceIte, List.nil_append, List.cons_append, List.length_cons, List.length_nil, List.getElem?_cons_zero, List.getElem?_cons_succ, Option.getD_some, Nat.reduceAdd, Nat.reduceLT, Nat.reduceLeDiff, Nat.reduceEqDiff, Nat.reduceBEq, ne_eq, reduceCtorEq, List.all_cons, List.all_nil, implies_true, List.getD_cons_zero, List.getD_cons_succ, List.append_eq, Int.reduceBEq, beq_self_eq_true, nd_159, t0, t1, t2, t6, t7, t8, e5]
      exact LpR.intro (xs.length - 1) (by omega) ⟨1, by omega, rfl, t0, t1, t2, t6, rfl, hg.ext _ _, .inr ⟨st1.k + 1, by rw [List.take_succ_eq_append_getElem hlt]; rfl, by have := hg.k; omega, by simp [ext_k], ext_live_new _ _ _ 1 (by decide)⟩⟩
    · simp -implicitDefEqProofs only [AWB, List.lookup_nil, ↓upd_hit, ↓upd_if, ↓reduceIte, List.nil_append, List.cons_append, List.length_cons, List.length_nil, List.getElem?_cons_zero, List.getElem?_cons_succ, Option.getD_some, Nat.reduceAdd, Nat.reduceLT, Nat.reduceLeDiff, Nat.reduceEqDiff, Nat.reduceBEq, ne_eq, reduceCtorEq, List.all_cons, List.all_nil, implies_true, List.getD_cons_zero, List.getD_cons_succ, List.append_eq, Int.reduceBEq, beq_self_eq_true, nd_159, t0, t1, t2, t6, t7, t8, hse, hce]
      refine Bs_d el_25 (toDss_one hce) zl_160 (by decide) (by decide) rfl rfl rfl (by simp only [List.all_cons, List.all_nil, hce, hcc, List.length_map, hN]; rfl) rfl ?_
      simp -implicitDefEqProofs only [AWB, List.lookup_nil, ↓upd_hit, ↓upd_if, ↓reduceIte, List.nil_append, List.cons_append, List.length_cons, List.length_nil, List.getElem?_cons_zero, List.getElem?_cons_succ, Option.getD_some, Nat.reduceAdd, Nat.reduceLT, Nat.reduceLeDiff, Nat.reduceEqDiff, Nat.reduceBEq, ne_eq, reduceCtorEq, List.all_cons, List.all_nil, implies_true, List.getD_cons_zero, List.getD_cons_succ, List.append_eq, Int.reduceBEq, beq_self_eq_true, nd_159, t0, t1, t2, t6, t7, t8, hse, hce]
      refine Ap_own el_25 rfl (by decide) zl_160 (by intro y hy; simp only [List.mem_singleton] at hy; rw [hy]; exact hN) (by rw [ext_live_old _ _ _ _ k2]; exact k3) (by simp; omega) (by simp; omega) rfl ?_
      simp -implicitDefEqProofs only [AWB, List.lookup_nil, ↓upd_hit, ↓upd_if, ↓reduceIte, List.nil_append, List.cons_append, List.length_cons, List.length_nil, List.getElem?_cons_zero, List.getElem?_cons_succ, Option.getD_some, Nat.reduceAdd, Nat.reduceLT, Nat.reduceLeDiff, Nat.reduceEqDiff, Nat.reduceBEq, ne_eq, reduceCtorEq, List.all_cons, List.all_nil, implies_true, List.getD_cons_zero, List.getD_cons_succ, List.append_eq, Int.reduceBEq, beq_self_eq_true, nd_159, t0, t1, t2, t6, t7, t8, e5, ext_eat_old _ _ _ _ k2]
      exact LpR.intro (xs.length - (i + 1)) (by omega) ⟨i + 1, by omega, rfl, t0, t1, t2, t6, rfl, (hg.eat tk k1).ext _ _, .inr ⟨st1.k + 1, by rw [List.take_succ_eq_append_getElem hlt]; rfl, by have := hg.k; omega, by simp [ext_k, St.eat_k], ext_live_new _ _ _ 1 (by decide)⟩⟩
  · have e1 : decide ((i : Int) < (xs.length : Int)) = false := by simp; omega
    have : i = xs.length := by omega
    subst this
    have hoff : off + 1 ≤ (st1.obj id).2.length := by rw [hg.obj id hid]; exact (List.getElem?_eq_some_iff.1 hx).1
    have fin : ∀ v : AV, Lw st.n st.k v (.d (.sl 2 xs)) → En Tryz.prog st (fun r s => r = .tup [] ∧ s = st) ⟨True, .tup []⟩ ((st1.setc id (splice (st1.obj id).2 off [v])).ext [] []) := fun v hv => by
      rw [St.ext_nil]
      refine ⟨trivial, .tup [], st.setc id (st.obj id).2, Drop.one id _ hg.n hg.k (fun j hj hne => ?_) hg.live ?_ ?_ (fun j a b ha hb => ?_), Lw.tupL .nil, rfl, St.setc_self st id⟩
      · rw [St.setc_obj, if_neg hne]; exact hg.obj j hj
      · rw [St.setc_obj, if_pos rfl, hg.obj id hid]
      · rw [St.setc_obj, if_pos rfl]; simp only; rw [splice_length _ _ _ hoff, hg.obj id hid]
      · rw [St.setc_obj, if_pos rfl] at ha
        simp only at ha
        rw [splice_get _ _ _ hoff, hg.obj id hid] at ha
        split at ha
        · exact .inl ⟨by rw [hb] at ha; cases ha; rfl, ha⟩
        · split at ha
          · rename_i h3 h4
            have : j = off := by simp only [List.length_singleton] at h4; omega
            subst this
            rw [hx] at hb; cases hb
            simp only [Nat.sub_self, List.getElem?_cons_zero, Option.some.injEq] at ha
            subst ha
            exact .inr hv
          · exact .inl ⟨by rw [hb] at ha; cases ha; rfl, ha⟩
    rcases h7 with ⟨h0, t7⟩ | ⟨tk, t7, k1, k2, k3⟩
    · simp -implicitDefEqProofs only [AWB, List.lookup_nil, ↓upd_hit, ↓upd_if, ↓reduceIte, List.nil_append, List.cons_append, List.length_cons, List.length_nil, List.getElem?_cons_zero, List.getElem?_cons_succ, Option.getD_some, Nat.reduceAdd, Nat.reduceLT, Nat.reduceLeDiff, Nat.reduceEqDiff, Nat.reduceBEq, ne_eq, reduceCtorEq, List.all_cons, List.all_nil, implies_true, List.getD_cons_zero, List.getD_cons_succ, List.append_eq, Int.reduceBEq, beq_self_eq_true, nd_159, t0, t1, t2, t6, t7, t8, e1, ext_obj_old _ _ _ _ hid1, hs1, hoff, ext_setc_old _ _ _ _ _ hid1]
      refine fin .nil ?_
      rw [List.eq_nil_of_length_eq_zero h0]
      exact .nilD _
    · simp -implicitDefEqProofs only [AWB, List.lookup_nil, ↓upd_hit, ↓upd_if, ↓reduceIte, List.nil_append, List.cons_append, List.length_cons, List.length_nil, List.getElem?_cons_zero, List.getElem?_cons_succ, Option.getD_some, Nat.reduceAdd, Nat.reduceLT, Nat.reduceLeDiff, Nat.reduceEqDiff, Nat.reduceBEq, ne_eq, reduceCtorEq, List.all_cons, List.all_nil, implies_true, List.getD_cons_zero, List.getD_cons_succ, List.append_eq, Int.reduceBEq, beq_self_eq_true, nd_159, t0, t1, t2, t6, t7, t8, e1, ext_obj_old _ _ _ _ hid1, hs1, hoff, ext_setc_old _ _ _ _ _ hid1]
      rw [List.take_length]
      exact fin (.own tk 2 xs) (.ownD _ _ _)

theorem list_121 (id off : Nat) (xs : List (List DV)) (one : AV) (st : St) (hid : id < st.n) (hx : (st.obj id).2[off]? = some (.d (.sl 5 xs))) (hl : ∀ x ∈ xs, x.length = 5) (hc : ∀ x ∈ xs, (x.map AV.d).all cellish = true)
    (hb : xs.length * 48 ≤ 140737488355328) (h1 : ∀ (st' : St) (j : Nat) (x : List DV), x ∈ xs → j < st'.n → (st'.obj j).2 = x.map .d → callA Tryz.prog one [still, .ptr j 0] st' (fun _ s => s = st')) :
    Ct Tryz.prog 121 [still, .ptr id off, one] st (fun r s => r = .tup [] ∧ s = st) := by
  refine Ct.of_textR mo Tryz.func121 rfl [] (by kernel_rfl) (by kernel_rfl) Tryz.ntmps121 (Nat.le_of_ble_eq_true rfl) Tryz.results121 ?_
  unfold still at *
  have hs : sub (st.obj id).2 off 1 false = ⟨True, .d (.sl 5 xs)⟩ := sub_get hx
  simp -implicitDefEqProofs only [AWB, List.lookup_nil, ↓upd_hit, ↓upd_if, ↓reduceIte, List.nil_append, List.cons_append, List.length_cons, List.length_nil, List.getElem?_cons_zero, List.getElem?_cons_succ, Option.getD_some, Nat.reduceAdd, Nat.reduceLT, Nat.reduceLeDiff, Nat.reduceEqDiff, Nat.reduceBEq, ne_eq, reduceCtorEq, List.all_cons, List.all_nil, implies_true, List.getD_cons_zero, List.getD_cons_succ, List.append_eq, Int.reduceBEq, beq_self_eq_true, nd_121, ext_obj_old _ _ _ _ hid, hs, nk_Len]
  refine Iv_ct me_Len (Len_ct _ _) rfl ?_
  simp -implicitDefEqProofs only [AWB, List.lookup_nil, ↓upd_hit, ↓upd_if, ↓reduceIte, List.nil_append, List.cons_append, List.length_cons, List.length_nil, List.getElem?_cons_zero, List.getElem?_cons_succ, Option.getD_some, Nat.reduceAdd, Nat.reduceLT, Nat.reduceLeDiff, Nat.reduceEqDiff, Nat.reduceBEq, ne_eq, reduceCtorEq, List.all_cons, List.all_nil, implies_true, List.getD_cons_zero, List.getD_cons_succ, List.append_eq, Int.reduceBEq, beq_self_eq_true, nd_121, ext_obj_old _ _ _ _ hid, hs, nk_Len]
  refine loopR_ext (fun n tm s => ∃ i : Nat, i ≤ xs.length ∧ n = xs.length - i ∧ tm 0 = .ifc 111 (.agg []) ∧ tm 1 = .ptr id off ∧ tm 2 = one ∧ tm 6 = .d (int xs.length) ∧ tm 8 = .d (int i) ∧ Grow st s ∧
      ((i = 0 ∧ tm 7 = .nil) ∨ ∃ tk, tm 7 = .own tk 5 (xs.take i) ∧ st.k ≤ tk ∧ tk < s.k ∧ s.live tk = some 105)) xs.length
    ⟨0, by omega, by omega, rfl, rfl, rfl, rfl, rfl, (Grow.refl st).ext [] [], .inl ⟨rfl, rfl⟩⟩ ?_
  rintro n tm st1 ⟨i, hi, hn, t0, t1, t2, t6, t8, hg, h7⟩
  have hid1 : id < st1.n := Nat.lt_of_lt_of_le hid hg.n
  have hs1 : sub (st1.obj id).2 off 1 false = ⟨True, .d (.sl 5 xs)⟩ := by rw [hg.obj id hid]; exact hs
  by_cases hlt : i < xs.length
  · have e1 : decide ((i : Int) < (xs.length : Int)) = true := by simp; omega
    have hm : xs[i] ∈ xs := List.getElem_mem hlt
    have hN : xs[i].length = 5 := hl _ hm
    have hie : ∀ (e n b : Nat) (k : IntKind), idxV (some (e, n, b)) (.d (.sl n xs)) (.d (.lit (.int k i))) = ⟨True, .pp (xs[i].map .d)⟩ := fun e n b k => idx_elem hlt
    have hse : sub (xs[i].map AV.d) 0 5 true = ⟨True, ldv true xs[i]⟩ := sub_elem hN (by decide)
    have hce : cellsL (ldv true xs[i]) = xs[i].map .d := cellsL_ldv (n := 5) hN (by decide)
    have hcc : (xs[i].map AV.d).all cellish = true := hc _ hm
    have hsp : ∀ cs : List AV, cs.length = 5 → splice cs 0 (xs[i].map AV.d) = xs[i].map .d := fun cs h => splice_all (by simp [h, hN])
    have e5 : IntKind.wrap .i64 ((i : Int) + 1) = ((i + 1 : Nat) : Int) := by rw [wrap_id _ (by omega) (by omega)]; omega
    simp -implicitDefEqProofs only [AWB, List.lookup_nil, ↓upd_hit, ↓upd_if, ↓reduceIte, List.nil_append, List.cons_append, List.length_cons, List.length_nil, List.getElem?_cons_zero, List.getElem?_cons_succ, Option.getD_some, Nat.reduceAdd, Nat.reduceLT, Nat.reduceLeDiff, Nat.reduceEqDiff, Nat.reduceBEq, ne_eq, reduceCtorEq, List.all_cons, List.all_nil, implies_true, List.getD_cons_zero, List.getD_cons_succ, List.append_eq, Int.reduceBEq, beq_self_eq_true, nd_121, t0, t1, t2, t6, t8, e1, ext_obj_old _ _ _ _ hid1, hs1]
    refine Iv_ct me_Bad (Bad_ct _) rfl ?_
    simp -implicitDefEqProofs only [AWB, List.lookup_nil, ↓upd_hit, ↓upd_if, ↓reduceIte, List.nil_append, List.cons_append, List.length_cons, List.length_nil, List.getElem?_cons_zero, List.getElem?_cons_succ, Option.getD_some, Nat.reduceAdd, Nat.reduceLT, Nat.reduceLeDiff, Nat.reduceEqDiff, Nat.reduceBEq, ne_eq, reduceCtorEq, List.all_cons, List.all_nil, implies_true, List.getD_cons_zero, List.getD_cons_succ, List.append_eq, Int.reduceBEq, beq_self_eq_true, nd_121, t0, t1, t2, t6, t8, e1, ext_obj_old _ _ _ _ hid1, hs1, hie, hse, hce, hcc, hN, List.length_map, hsp, ext_setc_new]
    refine Cl_val (fun _ s => s = st1.ext [(105, xs[i].map .d)] []) (h1 _ _ _ hm (by simp [ext_n]) (by rw [ext_obj_at]; rfl)) rfl ?_
    rintro v _ rfl
    rcases h7 with ⟨rfl, t7⟩ | ⟨tk, t7, k1, k2, k3⟩
    · simp -implicitDefEqProofs only [AWB, List.lookup_nil, ↓upd_hit, ↓upd_if, ↓reduceIte, List.nil_append, List.cons_append, List.length_cons, List.length_nil, List.getElem?_cons_zero, List.getElem?_cons_succ, Option.getD_some, Nat.reduceAdd, Nat.reduceLT, Nat.reduceLeDiff, Nat.reduceEqDiff, Nat.reduceBEq, ne_eq, reduceCtorEq, List.all_cons, List.all_nil, implies_true, List.getD_cons_zero, List.getD_cons_succ, List.append_eq, Int.reduceBEq, beq_self_eq_true, nd_121, t0, t1, t2, t6, t7, t8, hse, hce]
      refine Bs_d el_31 (toDss_one hce) zl_105 (by decide) (by decide) rfl rfl rfl (by simp only [List.all_cons, List.all_nil, hce, hcc, List.length_map, hN]; rfl) rfl ?_
      simp -implicitDefEqProofs only [AWB, List.lookup_nil, ↓upd_hit, ↓upd_if, ↓reduceIte, List.nil_append, List.cons_append, List.length_cons, List.length_nil, List.getElem?_cons_zero, List.getElem?_cons_succ, Option.getD_some, Nat.reduceAdd, Nat.reduceLT, Nat.reduceLeDiff, Nat.reduceEqDiff, Nat.reduceBEq, ne_eq, reduceCtorEq, List.all_cons, List.all_nil, implies_true, List.getD_cons_zero, List.getD_cons_succ, List.append_eq, Int.reduceBEq, beq_self_eq_true, nd_121, t0, t1, t2, t6, t7, t8, hse, hce]
      refine Ap_nil el_31 rfl (by decide) zl_105 (by intro y hy; simp only [List.mem_singleton] at hy; rw [hy]; exact hN) (by simp) (by simp) rfl ?_
      simp -implicitDefEqProofs only [AWB, List.lookup_nil, ↓upd_hit, ↓upd_if, ↓reduceIte, List.nil_append, List.cons_append, List.length_cons, List.length_nil, List.getElem?_cons_zero, List.getElem?_cons_succ, Option.getD_some, Nat.reduceAdd, Nat.reduceLT, Nat.reduceLeDiff, Nat.reduceEqDiff, Nat.reduceBEq, ne_eq, reduceCtorEq, List.all_cons, List.all_nil, implies_true, List.getD_cons_zero, List.getD_cons_succ, List.append_eq, Int.reduceBEq, beq_self_eq_true, nd_121, t0, t1, t2, t6, t7, t8, e5]
      exact LpR.intro (xs.length - 1) (by omega) ⟨1, by omega, rfl, t0, t1, t2, t6, rfl, hg.ext _ _, .inr ⟨st1.k + 1, by rw [List.take_succ_eq_append_getElem hlt]; rfl, by have := hg.k; omega, by simp [ext_k], ext_live_new _ _ _ 1 (by decide)⟩⟩
    · simp -implicitDefEqProofs only [AWB, List.lookup_nil, ↓upd_hit, ↓upd_if, ↓reduceIte, List.nil_append, List.cons_append, List.length_cons, List.length_nil, List.getElem?_cons_zero, List.getElem?_cons_succ, Option.getD_some, Nat.reduceAdd, Nat.reduceLT, Nat.reduceLeDiff, Nat.reduceEqDiff, Nat.reduceBEq, ne_eq, reduceCtorEq, List.all_cons, List.all_nil, implies_true, List.getD_cons_zero, List.getD_cons_succ, List.append_eq, Int.reduceBEq, beq_self_eq_true, nd_121, t0, t1, t2, t6, t7, t8, hse, hce]
      refine Bs_d el_31 (toDss_one hce) zl_105 (by decide) (by decide) rfl rfl rfl (by simp only [List.all_cons, List.all_nil, hce, hcc, List.length_map, hN]; rfl) rfl ?_
      simp -implicitDefEqProofs only [AWB, List.lookup_nil, ↓upd_hit, ↓upd_if, ↓reduceIte, List.nil_append, List.cons_append, List.length_cons, List.length_nil, List.getElem?_cons_zero, List.getElem?_cons_succ, Option.getD_some, Nat.reduceAdd, Nat.reduceLT, Nat.reduceLeDiff, Nat.reduceEqDiff, Nat.reduceBEq, ne_eq, reduceCtorEq, List.all_cons, List.all_nil, implies_true, List.getD_cons_zero, List.getD_cons_succ, List.append_eq, Int.reduceBEq, beq_self_eq_true, nd_121, t0, t1, t2, t6, t7, t8, hse, hce]
      refine Ap_own el_31 rfl (by decide) zl_105 (by intro y hy; simp only [List.mem_singleton] at hy; rw [hy]; exact hN) (by rw [ext_live_old _ _ _ _ k2]; exact k3) (by simp; omega) (by simp; omega) rfl ?_
      simp -implicitDefEqProofs only [AWB, List.lookup_nil, ↓upd_hit, ↓upd_if, ↓reduceIte, List.nil_append, List.cons_append, List.length_cons, List.length_nil, List.getElem?_cons_zero, List.getElem?_cons_succ, Option.getD_some, Nat.reduceAdd, Nat.reduceLT, Nat.reduceLeDiff, Nat.reduceEqDiff, Nat.reduceBEq, ne_eq, reduceCtorEq, List.all_cons, List.all_nil, implies_true, List.getD_cons_zero, List.getD_cons_succ, List.append_eq, Int.reduceBEq, beq_self_eq_true, nd_121, t0, t1, t2, t6, t7, t8, e5, ext_eat_old _ _ _ _ k2]
      exact LpR.intro (xs.length - (i + 1)) (by omega) ⟨i + 1, by omega, rfl, t0, t1, t2, t6, rfl, (hg.eat tk k1).ext _ _, .inr ⟨st1.k + 1, by rw [List.take_succ_eq_append_getElem hlt]; rfl, by have := hg.k; omega, by simp [ext_k, St.eat_k], ext_live_new _ _ _ 1 (by decide)⟩⟩
  · have e1 : decide ((i : Int) < (xs.length : Int)) = false := by simp; omega
    have : i = xs.length := by omega
    subst this
    have hoff : off + 1 ≤ (st1.obj id).2.length := by rw [hg.obj id hid]; exact (List.getElem?_eq_some_iff.1 hx).1
    have fin : ∀ v : AV, Lw st.n st.k v (.d (.sl 5 xs)) → En Tryz.prog st (fun r s => r = .tup [] ∧ s = st) ⟨True, .tup []⟩ ((st1.setc id (splice (st1.obj id).2 off [v])).ext [] []) := fun v hv => by
      rw [St.ext_nil]
      refine ⟨trivial, .tup [], st.setc id (st.obj id).2, Drop.one id _ hg.n hg.k (fun j hj hne => ?_) hg.live ?_ ?_ (fun j a b ha hb => ?_), Lw.tupL .nil, rfl, St.setc_self st id⟩
      · rw [St.setc_obj, if_neg hne]; exact hg.obj j hj
      · rw [St.setc_obj, if_pos rfl, hg.obj id hid]
      · rw [St.setc_obj, if_pos rfl]; simp only; rw [splice_length _ _ _ hoff, hg.obj id hid]
      · rw [St.setc_obj, if_pos rfl] at ha
        simp only at ha
        rw [splice_get _ _ _ hoff, hg.obj id hid] at ha
        split at ha
        · exact .inl ⟨by rw [hb] at ha; cases ha; rfl, ha⟩
        · split at ha
          · rename_i h3 h4
            have : j = off := by simp only [List.length_singleton] at h4; omega
            subst this
            rw [hx] at hb; cases hb
            simp only [Nat.sub_self, List.getElem?_cons_zero, Option.some.injEq] at ha
            subst ha
            exact .inr hv
          · exact .inl ⟨by rw [hb] at ha; cases ha; rfl, ha⟩
    rcases h7 with ⟨h0, t7⟩ | ⟨tk, t7, k1, k2, k3⟩
    · simp -implicitDefEqProofs only [AWB, List.lookup_nil, ↓upd_hit, ↓upd_if, ↓reduceIte, List.nil_append, List.cons_append, List.length_cons, List.length_nil, List.getElem?_cons_zero, List.getElem?_cons_succ, Option.getD_some, Nat.reduceAdd, Nat.reduceLT, Nat.reduceLeDiff, Nat.reduceEqDiff, Nat.reduceBEq, ne_eq, reduceCtorEq, List.all_cons, List.all_nil, implies_true, List.getD_cons_zero, List.getD_cons_succ, List.append_eq, Int.reduceBEq, beq_self_eq_true, nd_121, t0, t1, t2, t6, t7, t8, e1, ext_obj_old _ _ _ _ hid1, hs1, hoff, ext_setc_old _ _ _ _ _ hid1]
      refine fin .nil ?_
      rw [List.eq_nil_of_length_eq_zero h0]
      exact .nilD _
    · simp -implicitDefEqProofs only [AWB, List.lookup_nil, ↓upd_hit, ↓upd_if, ↓reduceIte, List.nil_append, List.cons_append, List.length_cons, List.length_nil, List.getElem?_cons_zero, List.getElem?_cons_succ, Option.getD_some, Nat.reduceAdd, Nat.reduceLT, Nat.reduceLeDiff, Nat.reduceEqDiff, Nat.reduceBEq, ne_eq, reduceCtorEq, List.all_cons, List.all_nil, implies_true, List.getD_cons_zero, List.getD_cons_succ, List.append_eq, Int.reduceBEq, beq_self_eq_true, nd_121, t0, t1, t2, t6, t7, t8, e1, ext_obj_old _ _ _ _ hid1, hs1, hoff, ext_setc_old _ _ _ _ _ hid1]
      rw [List.take_length]
      exact fin (.own tk 5 xs) (.ownD _ _ _)

end Go.AW
