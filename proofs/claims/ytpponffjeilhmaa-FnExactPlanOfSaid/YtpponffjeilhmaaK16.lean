/- A helper of this seat's claims (the logic of the walks): what it shows is shown for every input that its statements name, on no other condition. -/
import Derived.Test.YtpponffjeilhmaaK15
import Derived.Attr
set_option linter.unusedVariables false
namespace Go.KH
open Go.RowKit

/-! ## The simp set of the walks -/
theorem splice_s (c : Value) (cs new : List Value) (o : Nat) : splice (c :: cs) (o + 1) new = c :: splice cs o new := by
  unfold splice
  rw [show o + 1 + new.length = (o + new.length) + 1 by omega, List.take_succ_cons, List.drop_succ_cons]; rfl
theorem splice_z (cs new : List Value) : splice cs 0 new = new ++ cs.drop new.length := by simp [splice]
theorem fillL_cons (cells : List Value) (off size : Nat) (v : Value) (rest : List (Nat × Nat × Value)) (K : List Value → Prop) : withO (fillL cells ((off, size, v) :: rest)) K = Req ((vcl v).length = size ∧ off + size ≤ cells.length) (withO (fillL (splice cells off (vcl v)) rest) K) := by
  simp only [fillL, vcl]
  split
  · rename_i hc; simp [Req, hc]
  · rename_i hc; simp only [withO_none, Req]; exact (eq_false (fun h => hc h.1)).symm
theorem fillL_nil (z : List Value) : fillL z [] = some z := rfl
theorem cellsEq_iiis (a b c a' b' c' : Int) (d d' : List UInt8) : cellsEq [.i, .i, .i, .s] [i64 a, i64 b, i64 c, str d] [i64 a', i64 b', i64 c', str d'] = some (decide (a = a' ∧ b = b' ∧ c = c' ∧ d = d')) := by
  simp only [cellsEq, le_i, le_s, Option.bind_some]
  by_cases h1 : a = a' <;> by_cases h2 : b = b' <;> by_cases h3 : c = c' <;> by_cases h4 : d = d' <;> simp [h1, h2, h3, h4]
theorem cellsEq_iiii (a b c d a' b' c' d' : Int) : cellsEq [.i, .i, .i, .i] [i64 a, i64 b, i64 c, i64 d] [i64 a', i64 b', i64 c', i64 d'] = some (decide (a = a' ∧ b = b' ∧ c = c' ∧ d = d')) := by
  simp only [cellsEq, le_i, Option.bind_some]
  by_cases h1 : a = a' <;> by_cases h2 : b = b' <;> by_cases h3 : c = c' <;> by_cases h4 : d = d' <;> simp [h1, h2, h3, h4]
theorem Sub_self (h : H) : Sub h h = True := propext ⟨fun _ => trivial, fun _ => Sub.refl h⟩
theorem Sub_none (h h' : H) : Sub h.none h' = True := propext ⟨fun _ => trivial, fun _ => ⟨fun b ob hb => (by cases hb), fun b l hb => (by cases hb)⟩⟩
theorem bnot_dec (p : Prop) [Decidable p] : (!decide p) = decide (¬ p) := by simp
attribute [go_sem ↓] wpc_skip wpc_ops wpc_dops_t wpc_dops_f wpc_seq wpc_cond wpc_block wpc_loop wpc_exit wpc_ret thenQ_nor thenQ_exit thenQ_ret blkQ_nor blkQ_exit blkQ_ret loopQ_nor loopQ_exit loopQ_ret opsw_nil opsw_cons gow_n gow_g dopw_nil dopw_tk dopw_tkg dopw_sq dopw_lt dopw_alt
attribute [go_sem ↓] wv_mv wv_pick wv_ldt wv_ldf wv_fld wv_idx wv_aidx wv_ixt wv_ixf wv_bin wv_eqb wv_eqs wv_eqa wv_un wv_cv wv_sidx wv_ssl wv_lsls wv_lsln wv_len wv_slen wv_alen wv_partt wv_partf wv_ext wv_build wv_mkf wv_mn wv_mx wv_b2s wv_nck wv_lsl3 wv_mlk wv_mln
attribute [go_sem ↓] wo_p wo_box wo_alloc wo_bsl wo_st wo_app wo_cpy wo_mks wo_s2b wo_call wo_mkm wo_mup wo_clr bnd_n bnd_s rvs_nil rvs_tmp rvs_cell retw_ret retw_nor
attribute [go_sem] fillL_cons fillL_nil cellsEq_iiis cellsEq_iiii Sub_self Sub_none dum Req_true Req_false Req_and withO_if withO_if0 ev_t ev_c Br_true Br_false Br_not goes_app gob_bt gob_bf gob_u gob_t putf_s putf_n bi_add bi_sub bi_mul bi_quo bi_rem bi_and bi_or bi_xor bi_andNot bi_eql bi_neq bi_lss bi_leq bi_gtr bi_geq bi_shl bi_shr bs_add bs_eql bs_neq un_not un_neg un_xor es_any one_mk ng_f ng_t nck_ptr nck_fn srcOf_str srcOf_nil srcOf_sl upd_app argsFr_app withO_some withO_none withO_bind asB_mk asI_mk asP_mk asS_mk asA_mk asT_mk asL_mk asR_mk asFn_mk asFn_mk0 asFn_mk1 tup_one tup_two
attribute [go_sem] Option.bind_some Option.map_some Option.map_none List.getD_cons_zero List.getD_cons_succ List.nil_append List.append_nil List.map_cons List.map_nil List.getElem?_cons_zero List.getElem?_cons_succ not_true_eq_false not_false_eq_true decide_eq_true_eq decide_true decide_false Bool.not_true Bool.not_false Int.toNat_natCast bnot_dec
attribute [go_sem 500] ldc_set stc_set H.set_get
attribute [go_sem] withO_map
attribute [go_sem] H.set_set H.set_base H.set_get_same splice_s splice_z cells_agg cells_int cells_bool cells_str cells_slice cells_ptr List.take_succ_cons List.take_zero List.drop_succ_cons List.drop_zero List.length_cons List.length_nil List.cons_append List.all_cons List.all_nil oneCell_int oneCell_bool oneCell_str oneCell_slice oneCell_ptr Bool.and_self Nat.zero_add Nat.add_zero Nat.le_refl and_self true_and and_true and_false false_and if_true if_false
end Go.KH
