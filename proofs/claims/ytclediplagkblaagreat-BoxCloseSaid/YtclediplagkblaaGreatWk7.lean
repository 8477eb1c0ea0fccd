/- A part of the proofs of this seat: rules of a logic of owned and of lent memory, what functions compute, or their walks. -/
import Derived.Test.YtclediplagkblaaGreatCore12
import Derived.Test.YtclediplagkblaaGreatProg
import Derived.Test.YtclediplagkblaaGreatSp5
import Derived.Test.YtclediplagkblaaGreatWk6
set_option linter.unusedVariables false
set_option linter.unusedSimpArgs false
namespace Go.Hb.Wk7
open Go Go.Proofs
open Go.Hb.Wk1 Go.Hb.Wk2 Go.Hb.Wk3 Go.Hb.Wk4 Go.Hb.Wk6
theorem un121 : Tryz.prog.underlying 121 = some (.int .u64) := by kernel_rfl
theorem un5 : Tryz.prog.underlying 5 = some (.int .u8) := by kernel_rfl
theorem rUint_c (g : Nat) (A : Option Addr) (cp : Nat) (bs : List UInt8) (s : Rs) (most : UInt64) (hat : s.at_ ≤ bs.length) (hb : bs.length < 2 ^ 40) :
    Tr Tryz.prog 72 [.ptr g 0, .u64 most] (fun o => RS o 1 A bs.length cp (bs.map .u8)) ([Rdr g A cp bs s]) (fun x H' => x = .u64 (s.uint bs most).1 ∧ H' = [Rdr g A cp bs (s.uint bs most).2]) := by
  refine Tr_intro Tryz.func72 rfl rfl (fun c hR => ?_)
  refine C_seq ?_
  refine C_region ?_
  refine W_rd (rd_assign rfl) rfl rfl rfl ?_
  refine W_nil ?_
  refine N_then ?_
  refine C_seq ?_
  refine C_region ?_
  refine W_rd (rd_assign rfl) rfl rfl rfl ?_
  refine W_nil ?_
  refine N_then ?_
  refine C_seq ?_
  refine C_seq ?_
  refine C_region ?_
  refine W_rd (rd_assign rfl) rfl rfl rfl ?_
  refine W_nil ?_
  refine N_then ?_
  refine C_block ?_
  refine C_loop (γ := UG) (fun q => UGI bs s q) (fun q => [(0, .ptr g 0), (1, .u64 most), (5, .u64 q.n), (6, .i64 (((63 - 7 * q.f) : Nat) : Int))]) (fun q => [Rdr g A cp bs q.s]) (fun q => q.f) ⟨9, s, 0⟩ ?hI0 (subL.spec ⟨rfl, rfl, rfl, rfl, trivial⟩) (List.Perm.refl _) ?_
  case hI0 => exact ⟨Nat.le_refl _, hat, rfl⟩
  rintro q hI0
  refine C_seq ?_
  refine C_block ?_
  refine C_seq ?_
  refine C_region ?_
  refine W_rd (rd_move rfl) rfl rfl rfl ?_
  refine W_op rfl (op_call (rByte_c g A cp bs q.s hI0.at_ hb) Tryz.func75 rfl rfl rfl (pickR_spec (is := [0]) rfl) (fun o hle _ => hR.mono hle) rfl ?_)
  rintro xt11 Ht11 ⟨rfl, rfl⟩
  refine W_rd (rd_assign rfl) rfl rfl rfl ?_
  refine W_nil ?_
  refine N_then ?_
  refine C_seq ?_
  refine C_seq ?_
  refine C_join [(0, .ptr g 0), (1, .u64 most), (5, .u64 q.n), (6, .i64 (((63 - 7 * q.f) : Nat) : Int)), (7, .u8 (q.s.byte bs).1), (25, .b (uintBad (63 - 7 * q.f) (q.s.byte bs).1))] ([Rdr g A cp bs (q.s.byte bs).2]) ?_ ?_
  ·
    refine C_region ?_
    refine W_rd (rd_move rfl) rfl rfl rfl ?_
    refine W_rd (rd_bin rfl rfl rfl) rfl rfl rfl ?_
    refine W_rd (rd_move rfl) rfl rfl rfl ?_
    refine W_split (dd := 14) rfl (fun ht14 => ?_) (fun ht14 => ?_)
    ·
      refine W_gt rfl rfl rfl (op_rd (rd_move rfl) rfl rfl ?_)
      refine W_gt rfl rfl rfl (op_rd (rd_bin rfl rfl rfl) rfl rfl ?_)
      refine W_rd (rd_pick rfl rfl) rfl rfl rfl ?_
      refine W_rd (rd_move rfl) rfl rfl rfl ?_
      refine W_split (dd := 18) rfl (fun ht18 => ?_) (fun ht18 => ?_)
      ·
        refine W_gf rfl rfl rfl (by first | exact .inl rfl | exact .inr rfl) rfl rfl ?_
        refine W_gf rfl rfl rfl (by first | exact .inl rfl | exact .inr rfl) rfl rfl ?_
        refine W_gf rfl rfl rfl (by first | exact .inl rfl | exact .inr rfl) rfl rfl ?_
        refine W_gf rfl rfl rfl (by first | exact .inl rfl | exact .inr rfl) rfl rfl ?_
        refine W_gf rfl rfl rfl (by first | exact .inl rfl | exact .inr rfl) rfl rfl ?_
        refine W_gf rfl rfl rfl (by first | exact .inl rfl | exact .inr rfl) rfl rfl ?_
        refine W_rd (rd_pick rfl rfl) rfl rfl rfl ?_
        refine W_nil ?_
        refine N_joined ⟨rfl, rfl, rfl, rfl, rfl, congrArg (fun t => some (TV.b t)) (?_ : _ = uintBad _ _), trivial⟩ (List.Perm.refl _)
        simp only [decide_eq_true_eq, decide_eq_false_iff_not] at *
        first | exact uintBad_tt (by omega) ht18 | exact uintBad_tf (by omega) ht18 | exact uintBad_ff (by omega) (by omega) | exact uintBad_f0 (by omega) (by omega) | omega
      ·
        refine W_gt rfl rfl rfl (op_rd (rd_move rfl) rfl rfl ?_)
        refine W_gt rfl rfl rfl (op_rd (rd_bin rfl rfl rfl) rfl rfl ?_)
        refine W_gt rfl rfl rfl (op_rd (rd_move rfl) rfl rfl ?_)
        refine W_split (dd := 21) rfl (fun ht21 => ?_) (fun ht21 => ?_)
        ·
          refine W_gt rfl rfl rfl (op_rd (rd_move rfl) rfl rfl ?_)
          refine W_gt rfl rfl rfl (op_rd (rd_bin rfl rfl rfl) rfl rfl ?_)
          refine W_gt rfl rfl rfl (op_rd (rd_pick rfl rfl) rfl rfl ?_)
          refine W_rd (rd_pick rfl rfl) rfl rfl rfl ?_
          refine W_nil ?_
          refine N_joined ⟨rfl, rfl, rfl, rfl, rfl, congrArg (fun t => some (TV.b t)) (?_ : _ = uintBad _ _), trivial⟩ (List.Perm.refl _)
          simp only [decide_eq_true_eq, decide_eq_false_iff_not] at *
          first | exact uintBad_tt (by omega) ht18 | exact uintBad_tf (by omega) ht18 | exact uintBad_ff (by omega) (by omega) | exact uintBad_f0 (by omega) (by omega) | omega
        ·
          refine W_gf rfl rfl rfl (by first | exact .inl rfl | exact .inr rfl) rfl rfl ?_
          refine W_gf rfl rfl rfl (by first | exact .inl rfl | exact .inr rfl) rfl rfl ?_
          refine W_gt rfl rfl rfl (op_rd (rd_pick rfl rfl) rfl rfl ?_)
          refine W_rd (rd_pick rfl rfl) rfl rfl rfl ?_
          refine W_nil ?_
          refine N_joined ⟨rfl, rfl, rfl, rfl, rfl, congrArg (fun t => some (TV.b t)) (?_ : _ = uintBad _ _), trivial⟩ (List.Perm.refl _)
          simp only [decide_eq_true_eq, decide_eq_false_iff_not] at *
          first | exact uintBad_tt (by omega) ht18 | exact uintBad_tf (by omega) ht18 | exact uintBad_ff (by omega) (by omega) | exact uintBad_f0 (by omega) (by omega) | omega
    ·
      refine W_gf rfl rfl rfl (by first | exact .inl rfl | exact .inr rfl) rfl rfl ?_
      refine W_gf rfl rfl rfl (by first | exact .inl rfl | exact .inr rfl) rfl rfl ?_
      refine W_rd (rd_pick rfl rfl) rfl rfl rfl ?_
      refine W_rd (rd_move rfl) rfl rfl rfl ?_
      refine W_gt rfl rfl rfl (op_rd (rd_move rfl) rfl rfl ?_)
      refine W_gt rfl rfl rfl (op_rd (rd_bin rfl rfl rfl) rfl rfl ?_)
      refine W_gt rfl rfl rfl (op_rd (rd_move rfl) rfl rfl ?_)
      refine W_split (dd := 21) rfl (fun ht21 => ?_) (fun ht21 => ?_)
      ·
        refine W_gt rfl rfl rfl (op_rd (rd_move rfl) rfl rfl ?_)
        refine W_gt rfl rfl rfl (op_rd (rd_bin rfl rfl rfl) rfl rfl ?_)
        refine W_gt rfl rfl rfl (op_rd (rd_pick rfl rfl) rfl rfl ?_)
        refine W_rd (rd_pick rfl rfl) rfl rfl rfl ?_
        refine W_nil ?_
        refine N_joined ⟨rfl, rfl, rfl, rfl, rfl, congrArg (fun t => some (TV.b t)) (?_ : _ = uintBad _ _), trivial⟩ (List.Perm.refl _)
        simp only [decide_eq_true_eq, decide_eq_false_iff_not] at *
        first | exact uintBad_tt (by omega) ht18 | exact uintBad_tf (by omega) ht18 | exact uintBad_ff (by omega) (by omega) | exact uintBad_f0 (by omega) (by omega) | omega
      ·
        refine W_gf rfl rfl rfl (by first | exact .inl rfl | exact .inr rfl) rfl rfl ?_
        refine W_gf rfl rfl rfl (by first | exact .inl rfl | exact .inr rfl) rfl rfl ?_
        refine W_gt rfl rfl rfl (op_rd (rd_pick rfl rfl) rfl rfl ?_)
        refine W_rd (rd_pick rfl rfl) rfl rfl rfl ?_
        refine W_nil ?_
        refine N_joined ⟨rfl, rfl, rfl, rfl, rfl, congrArg (fun t => some (TV.b t)) (?_ : _ = uintBad _ _), trivial⟩ (List.Perm.refl _)
        simp only [decide_eq_true_eq, decide_eq_false_iff_not] at *
        first | exact uintBad_tt (by omega) ht18 | exact uintBad_tf (by omega) ht18 | exact uintBad_ff (by omega) (by omega) | exact uintBad_f0 (by omega) (by omega) | omega
  ·
    refine N_then ?_
    refine C_join [(0, .ptr g 0), (1, .u64 most), (5, .u64 q.n), (6, .i64 (((63 - 7 * q.f) : Nat) : Int)), (7, .u8 (q.s.byte bs).1)] ([Rdr g A cp bs (q.s.uintRound bs (63 - 7 * q.f)).2]) ?_ ?_
    ·
      refine C_cond rfl (fun ht25 => ?_) (fun ht25 => ?_)
      ·
        refine C_region ?_
        refine W_rd (rd_move rfl) rfl rfl rfl ?_
        refine W_op rfl (op_call (rFail_c g A cp bs (q.s.byte bs).2 4) Tryz.func145 rfl rfl rfl (pickR_spec (is := [0]) rfl) (fun _ _ _ => trivial) rfl ?_)
        rintro xt27 Ht27 ⟨rfl, rfl⟩
        refine W_nil ?_
        first | exact N_joined ⟨rfl, rfl, rfl, rfl, rfl, trivial⟩ (by rw [Rs.uintRound_bad ht25]; exact List.Perm.refl _) | exact N_joined ⟨rfl, rfl, rfl, rfl, rfl, trivial⟩ (by rw [Rs.uintRound_good ht25])
      ·
        refine C_skip ?_
        first | exact N_joined ⟨rfl, rfl, rfl, rfl, rfl, trivial⟩ (by rw [Rs.uintRound_bad ht25]; exact List.Perm.refl _) | exact N_joined ⟨rfl, rfl, rfl, rfl, rfl, trivial⟩ (by rw [Rs.uintRound_good ht25])
    ·
      refine N_then ?_
      refine C_seq ?_
      refine C_seq ?_
      refine C_region ?_
      refine W_rd (rd_move rfl) rfl rfl rfl ?_
      refine W_op rfl (op_call (rErr_c g A cp bs (q.s.uintRound bs (63 - 7 * q.f)).2) Tryz.func143 rfl rfl rfl (pickR_spec (is := [0]) rfl) (fun _ _ _ => trivial) rfl ?_)
      rintro xt29 Ht29 ⟨rfl, rfl⟩
      refine W_rd (rd_bin rfl rfl rfl) rfl rfl rfl ?_
      refine W_nil ?_
      refine N_then ?_
      refine C_cond rfl (fun ht30 => ?_) (fun ht30 => ?_)
      ·
        refine C_seq ?_
        refine C_region ?_
        refine W_rd (rd_assign rfl) rfl rfl rfl ?_
        refine W_nil ?_
        refine N_then ?_
        refine C_ret ?_
        repeat (first | refine Rt_then ?_ | refine Rt_block ?_)
        have hz := Rs.uint_none (most := most) (hI0.eq.symm.trans (Rs.uintGo_err (by simpa using ht30)))
        exact Ret1 [0] rfl rfl rfl (by rw [hz]) ⟨by rw [hz]; rfl, rfl⟩
      ·
        have herr : (q.s.uintRound bs (63 - 7 * q.f)).2.err = 0 := by simpa using ht30
        refine C_skip ?_
        refine N_then ?_
        refine C_seq ?_
        refine C_region ?_
        refine W_rd (rd_move rfl) rfl rfl rfl ?_
        refine W_rd (rd_move rfl) rfl rfl rfl ?_
        refine W_rd (rd_bin rfl rfl rfl) rfl rfl rfl ?_
        refine W_rd (rd_conv un5 un121 rfl rfl) rfl rfl rfl ?_
        refine W_rd (rd_move rfl) rfl rfl rfl ?_
        refine W_rd (rd_shift rfl rfl rfl (.inl rfl) rfl (by omega)) rfl rfl rfl ?_
        refine W_rd (rd_bin rfl rfl rfl) rfl rfl rfl ?_
        refine W_rd (rd_assign rfl) rfl rfl rfl ?_
        refine W_nil ?_
        refine N_then ?_
        refine C_seq ?_
        refine C_region ?_
        refine W_rd (rd_move rfl) rfl rfl rfl ?_
        refine W_rd (rd_bin rfl rfl rfl) rfl rfl rfl ?_
        refine W_nil ?_
        refine N_then ?_
        refine C_cond rfl (fun ht39 => ?_) (fun ht39 => ?_)
        ·
          have hz : Rs.uintGo bs 9 s 0 = _ := hI0.eq.symm.trans (Rs.uintGo_done herr (of_decide_eq_true ht39))
          refine C_exit ?_
          repeat (first | refine X_then ?_ | refine X_here ?_ | refine X_block rfl ?_)
          refine N_then ?_
          refine C_seq ?_
          refine C_seq ?_
          refine C_region ?_
          refine W_rd (rd_move rfl) rfl rfl rfl ?_
          refine W_rd (rd_move rfl) rfl rfl rfl ?_
          refine W_rd (rd_bin rfl rfl rfl) rfl rfl rfl ?_
          refine W_nil ?_
          refine N_then ?_
          refine C_cond rfl (fun ht42 => ?_) (fun ht42 => ?_)
          ·
            refine C_seq ?_
            refine C_region ?_
            refine W_rd (rd_move rfl) rfl rfl rfl ?_
            refine W_op rfl (op_call (rFail_c g A cp bs (q.s.uintRound bs (63 - 7 * q.f)).2 7) Tryz.func145 rfl rfl rfl (pickR_spec (is := [0]) rfl) (fun _ _ _ => trivial) rfl ?_)
            rintro xt44 Ht44 ⟨rfl, rfl⟩
            refine W_nil ?_
            refine N_then ?_
            refine C_seq ?_
            refine C_region ?_
            refine W_rd (rd_assign rfl) rfl rfl rfl ?_
            refine W_nil ?_
            refine N_then ?_
            refine C_ret ?_
            repeat (first | refine Rt_then ?_ | refine Rt_block ?_)
            have hu := Rs.uint_big hz (of_decide_eq_true ht42)
            exact Ret1 [0] rfl rfl rfl (by rw [hu]) ⟨by rw [hu]; rfl, rfl⟩
          ·
            refine C_skip ?_
            refine N_then ?_
            refine C_seq ?_
            refine C_region ?_
            refine W_rd (rd_move rfl) rfl rfl rfl ?_
            refine W_rd (rd_assign rfl) rfl rfl rfl ?_
            refine W_nil ?_
            refine N_then ?_
            refine C_ret ?_
            repeat (first | refine Rt_then ?_ | refine Rt_block ?_)
            have hu := Rs.uint_ok hz (of_decide_eq_false ht42)
            exact Ret1 [0] rfl rfl rfl (by rw [hu]) ⟨by rw [hu]; rfl, rfl⟩
        ·
          refine C_skip ?_
          refine N_block ?_
          refine N_then ?_
          refine C_region ?_
          refine W_rd (rd_move rfl) rfl rfl rfl ?_
          refine W_rd (rd_iadd rfl rfl (by omega)) rfl rfl rfl ?_
          refine W_rd (rd_assign rfl) rfl rfl rfl ?_
          refine W_nil ?_
          have hmore := Rs.uintGo_more (n := q.n) herr (of_decide_eq_false ht39)
          refine N_round ⟨q.f - 1, (q.s.uintRound bs (63 - 7 * q.f)).2, q.n ||| shl64 ((q.s.byte bs).1 &&& 127).toUInt64 (63 - 7 * q.f)⟩ ⟨by have := hI0.f9; simp only []; omega, Rs.uintRound_at hI0.at_, by rw [← hI0.eq]; exact hmore.2.symm⟩ (by have := hmore.1; simp only []; omega) (subL.spec ⟨rfl, rfl, rfl, ?_, trivial⟩) (List.Perm.refl _)
          exact congrArg (fun t => some (TV.i64 t)) (by have := hmore.1; have := hI0.f9; simp only []; omega)
end Go.Hb.Wk7
