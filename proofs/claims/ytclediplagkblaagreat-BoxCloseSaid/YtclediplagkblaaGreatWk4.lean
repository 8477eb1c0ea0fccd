/- A part of the proofs of this seat: rules of a logic of owned and of lent memory, what functions compute, or their walks. -/
import Derived.Test.YtclediplagkblaaGreatCore12
import Derived.Test.YtclediplagkblaaGreatProg
import Derived.Test.YtclediplagkblaaGreatSp3
import Derived.Test.YtclediplagkblaaGreatWk3
set_option linter.unusedVariables false
set_option linter.unusedSimpArgs false
namespace Go.Hb.Wk4
open Go Go.Proofs
open Go.Hb.Wk1 Go.Hb.Wk2 Go.Hb.Wk3
theorem ze157 : Zero Tryz.prog 157 ([.sl none 0 0]) := Zero.ofK (by kernel_rfl)
theorem ze173 : Zero Tryz.prog 173 ([.str [], .i64 0, .i64 0]) := Zero.ofK (by kernel_rfl)
theorem ag173 : Aggr Tryz.prog 173 3 := ⟨fun _ => by kernel_rfl, fun _ => by kernel_rfl⟩
theorem fa173_0 : FA Tryz.prog 173 0 0 := fun _ _ => by kernel_rfl
theorem fa173_1 : FA Tryz.prog 173 1 1 := fun _ _ => by kernel_rfl
theorem fa173_2 : FA Tryz.prog 173 2 2 := fun _ _ => by kernel_rfl
theorem la157 : Lay Tryz.prog 157 ([.sl none 0 0]) [(0, 1)] := Lay.ofK ze157 (by kernel_rfl)
theorem sc3 : Scal Tryz.prog 3 := ⟨fun _ => by kernel_rfl, fun _ => by kernel_rfl⟩
theorem sc9 : Scal Tryz.prog 9 := ⟨fun _ => by kernel_rfl, fun _ => by kernel_rfl⟩
theorem sl170 : SlT Tryz.prog 170 173 3 32 := SlT.ofB (by kernel_rfl) rfl
theorem un121 : Tryz.prog.underlying 121 = some (.int .u64) := by kernel_rfl
theorem un27 : Tryz.prog.underlying 27 = some (.slice 5) := by kernel_rfl
theorem un3 : Tryz.prog.underlying 3 = some (.int .i64) := by kernel_rfl
theorem un5 : Tryz.prog.underlying 5 = some (.int .u8) := by kernel_rfl
theorem un9 : Tryz.prog.underlying 9 = some (.string) := by kernel_rfl
set_option maxHeartbeats 1000000 in
theorem indexCheck_c (A : Option Addr) (cp : Nat) (l : List Ent) :
    Tr Tryz.prog 187 [.sl A l.length cp] (fun o => RS o 3 A l.length cp (l.flatMap Ent.tv)) ([]) (fun x H' => x = .i64 (indexChk l) ∧ H' = []) := by
  refine Tr_intro Tryz.func187 rfl rfl (fun c hR => ?_)
  refine C_seq ?_
  refine C_region ?_
  refine W_rd (rd_assign rfl) rfl rfl rfl ?_
  refine W_nil ?_
  refine N_then ?_
  refine C_seq ?_
  refine C_seq ?_
  refine C_region ?_
  refine W_rd (rd_move rfl) rfl rfl rfl ?_
  refine W_rd (rd_len sl170.und rfl) rfl rfl rfl ?_
  refine W_rd (rd_bin rfl rfl rfl) rfl rfl rfl ?_
  refine W_nil ?_
  refine N_then ?_
  refine C_cond rfl (fun ht7 => ?_) (fun ht7 => ?_)
  ·
    refine C_seq ?_
    refine C_region ?_
    refine W_rd (rd_assign rfl) rfl rfl rfl ?_
    refine W_nil ?_
    refine N_then ?_
    refine C_ret ?_
    repeat (first | refine Rt_then ?_ | refine Rt_block ?_)
    refine Ret1 [] rfl rfl rfl rfl ⟨congrArg TV.i64 ?_, rfl⟩
    unfold indexChk; rw [if_pos (by simp at ht7; omega)]
  ·
    refine C_skip ?_
    refine N_then ?_
    refine C_seq ?_
    refine C_seq ?_
    have hlen : l.length ≤ 1000 := (by simp at ht7; omega)
    refine C_region ?_
    refine W_rd (rd_move rfl) rfl rfl rfl ?_
    refine W_rd (rd_len sl170.und rfl) rfl rfl rfl ?_
    refine W_rd (rd_move rfl) rfl rfl rfl ?_
    refine W_nil ?_
    refine N_then ?_
    refine C_block ?_
    refine C_loop (γ := Nat) (fun k => IxI l k) (fun k => [(0, .sl A l.length cp), (8, .sl A l.length cp), (9, .i64 (l.length : Int)), (10, .i64 (k : Int))]) (fun k => []) (fun k => l.length - k) 0 ?hI0 (subL.spec ⟨rfl, rfl, rfl, rfl, trivial⟩) (List.Perm.refl _) ?_
    case hI0 => exact IxI.init l
    rintro k hI0
    refine C_seq ?_
    refine C_region ?_
    refine W_rd (rd_bin rfl rfl rfl) rfl rfl rfl ?_
    refine W_nil ?_
    refine N_then ?_
    refine C_seq ?_
    refine C_cond rfl (fun ht11 => ?_) (fun ht11 => ?_)
    ·
      refine C_skip ?_
      refine N_then ?_
      refine C_seq ?_
      refine C_block ?_
      refine C_seq ?_
      have hk : k < l.length := (by simp at ht11; omega)
      obtain ⟨e, he⟩ : ∃ e, l[k]? = some e := ⟨l[k], by simp [hk]⟩
      have h63 := hR.le63
      refine C_region ?_
      refine W_rd (rd_move rfl) rfl rfl rfl ?_
      refine W_rd (rd_indexN sl170 hR rfl rfl (by omega)) rfl rfl rfl ?_
      refine W_rd (rd_loads_el hR rfl ag173 (flat_get (f := Ent.tv) (fun _ => rfl) he) rfl (by omega)) rfl rfl rfl ?_
      refine W_op rfl (op_alloc ze173 rfl ?_)
      intro gt4
      refine W_rd (rd_assign rfl) rfl rfl rfl ?_
      first | refine W_op rfl (op_sts 0 rfl rfl rfl ag173 rfl rfl rfl rfl ?_) | refine W_op rfl (op_sts 1 rfl rfl rfl ag173 rfl rfl rfl rfl ?_) | refine W_op rfl (op_sts 2 rfl rfl rfl ag173 rfl rfl rfl rfl ?_) | refine W_op rfl (op_sts 3 rfl rfl rfl ag173 rfl rfl rfl rfl ?_) | refine W_op rfl (op_sts 4 rfl rfl rfl ag173 rfl rfl rfl rfl ?_) | refine W_op rfl (op_sts 5 rfl rfl rfl ag173 rfl rfl rfl rfl ?_) | refine W_op rfl (op_sts 6 rfl rfl rfl ag173 rfl rfl rfl rfl ?_) | refine W_op rfl (op_sts 7 rfl rfl rfl ag173 rfl rfl rfl rfl ?_)
      refine W_nil ?_
      refine N_then ?_
      refine C_block ?_
      refine C_seq ?_
      refine C_region ?_
      refine W_rd (rd_fieldAddr fa173_0 rfl) rfl rfl rfl ?_
      first | refine W_op rfl (op_load 0 rfl rfl sc9 rfl rfl ?_) | refine W_op rfl (op_load 1 rfl rfl sc9 rfl rfl ?_) | refine W_op rfl (op_load 2 rfl rfl sc9 rfl rfl ?_) | refine W_op rfl (op_load 3 rfl rfl sc9 rfl rfl ?_) | refine W_op rfl (op_load 4 rfl rfl sc9 rfl rfl ?_) | refine W_op rfl (op_load 5 rfl rfl sc9 rfl rfl ?_) | refine W_op rfl (op_load 6 rfl rfl sc9 rfl rfl ?_) | refine W_op rfl (op_load 7 rfl rfl sc9 rfl rfl ?_)
      refine W_rd (rd_slen un9 rfl) rfl rfl rfl ?_
      refine W_rd (rd_bin rfl rfl rfl) rfl rfl rfl ?_
      refine W_rd (rd_move rfl) rfl rfl rfl ?_
      refine W_split (dd := 20) rfl (fun ht20 => ?_) (fun ht20 => ?_)
      ·
        refine W_gf rfl rfl rfl (by first | exact .inl rfl | exact .inr rfl) rfl rfl ?_
        refine W_gf rfl rfl rfl (by first | exact .inl rfl | exact .inr rfl) rfl rfl ?_
        refine W_gf rfl rfl rfl (by first | exact .inl rfl | exact .inr rfl) rfl rfl ?_
        refine W_gf rfl rfl rfl (by first | exact .inl rfl | exact .inr rfl) rfl rfl ?_
        refine W_rd (rd_pick rfl rfl) rfl rfl rfl ?_
        refine W_rd (rd_assign rfl) rfl rfl rfl ?_
        refine W_nil ?_
        refine N_then ?_
        refine C_cond rfl (fun _ => ?_) (fun h => by cases h)
        refine C_seq ?_
        refine C_region ?_
        refine W_rd (rd_assign rfl) rfl rfl rfl ?_
        refine W_nil ?_
        refine N_then ?_
        refine C_ret ?_
        repeat (first | refine Rt_then ?_ | refine Rt_block ?_)
        refine Ret1 [] rfl rfl rfl rfl ⟨congrArg TV.i64 ?_, rfl⟩
        refine indexChk_ret hlen hI0.eq he ?_ (by decide)
        unfold Ent.chk
        simp only [decide_eq_true_eq, decide_eq_false_iff_not, Bool.not_eq_true', Bool.not_eq_false'] at *
        repeat' split
        all_goals first | rfl | omega | contradiction | (simp_all; done) | (simp_all; omega)
      ·
        refine W_gt rfl rfl rfl (op_rd (rd_fieldAddr fa173_0 rfl) rfl rfl ?_)
        first | refine W_gt rfl rfl rfl (op_load 0 rfl rfl sc9 rfl rfl ?_) | refine W_gt rfl rfl rfl (op_load 1 rfl rfl sc9 rfl rfl ?_) | refine W_gt rfl rfl rfl (op_load 2 rfl rfl sc9 rfl rfl ?_) | refine W_gt rfl rfl rfl (op_load 3 rfl rfl sc9 rfl rfl ?_) | refine W_gt rfl rfl rfl (op_load 4 rfl rfl sc9 rfl rfl ?_) | refine W_gt rfl rfl rfl (op_load 5 rfl rfl sc9 rfl rfl ?_) | refine W_gt rfl rfl rfl (op_load 6 rfl rfl sc9 rfl rfl ?_) | refine W_gt rfl rfl rfl (op_load 7 rfl rfl sc9 rfl rfl ?_)
        refine W_gt rfl rfl rfl (op_rd (rd_slen un9 rfl) rfl rfl ?_)
        refine W_gt rfl rfl rfl (op_rd (rd_bin rfl rfl rfl) rfl rfl ?_)
        refine W_rd (rd_pick rfl rfl) rfl rfl rfl ?_
        refine W_rd (rd_assign rfl) rfl rfl rfl ?_
        refine W_nil ?_
        refine N_then ?_
        refine C_cond rfl (fun ht15 => ?_) (fun ht15 => ?_)
        ·
          refine C_seq ?_
          refine C_region ?_
          refine W_rd (rd_assign rfl) rfl rfl rfl ?_
          refine W_nil ?_
          refine N_then ?_
          refine C_ret ?_
          repeat (first | refine Rt_then ?_ | refine Rt_block ?_)
          refine Ret1 [] rfl rfl rfl rfl ⟨congrArg TV.i64 ?_, rfl⟩
          refine indexChk_ret hlen hI0.eq he ?_ (by decide)
          unfold Ent.chk
          simp only [decide_eq_true_eq, decide_eq_false_iff_not, Bool.not_eq_true', Bool.not_eq_false'] at *
          repeat' split
          all_goals first | rfl | omega | contradiction | (simp_all; done) | (simp_all; omega)
        ·
          refine C_seq ?_
          refine C_region ?_
          refine W_rd (rd_fieldAddr fa173_1 rfl) rfl rfl rfl ?_
          first | refine W_op rfl (op_load 0 rfl rfl sc3 rfl rfl ?_) | refine W_op rfl (op_load 1 rfl rfl sc3 rfl rfl ?_) | refine W_op rfl (op_load 2 rfl rfl sc3 rfl rfl ?_) | refine W_op rfl (op_load 3 rfl rfl sc3 rfl rfl ?_) | refine W_op rfl (op_load 4 rfl rfl sc3 rfl rfl ?_) | refine W_op rfl (op_load 5 rfl rfl sc3 rfl rfl ?_) | refine W_op rfl (op_load 6 rfl rfl sc3 rfl rfl ?_) | refine W_op rfl (op_load 7 rfl rfl sc3 rfl rfl ?_)
          refine W_rd (rd_bin rfl rfl rfl) rfl rfl rfl ?_
          refine W_rd (rd_move rfl) rfl rfl rfl ?_
          refine W_split (dd := 30) rfl (fun ht30 => ?_) (fun ht30 => ?_)
          ·
            refine W_gf rfl rfl rfl (by first | exact .inl rfl | exact .inr rfl) rfl rfl ?_
            refine W_gf rfl rfl rfl (by first | exact .inl rfl | exact .inr rfl) rfl rfl ?_
            refine W_gf rfl rfl rfl (by first | exact .inl rfl | exact .inr rfl) rfl rfl ?_
            refine W_rd (rd_pick rfl rfl) rfl rfl rfl ?_
            refine W_rd (rd_move rfl) rfl rfl rfl ?_
            refine W_gf rfl rfl rfl (by first | exact .inl rfl | exact .inr rfl) rfl rfl ?_
            refine W_gf rfl rfl rfl (by first | exact .inl rfl | exact .inr rfl) rfl rfl ?_
            refine W_gf rfl rfl rfl (by first | exact .inl rfl | exact .inr rfl) rfl rfl ?_
            refine W_rd (rd_pick rfl rfl) rfl rfl rfl ?_
            refine W_rd (rd_move rfl) rfl rfl rfl ?_
            refine W_gf rfl rfl rfl (by first | exact .inl rfl | exact .inr rfl) rfl rfl ?_
            refine W_gf rfl rfl rfl (by first | exact .inl rfl | exact .inr rfl) rfl rfl ?_
            refine W_gf rfl rfl rfl (by first | exact .inl rfl | exact .inr rfl) rfl rfl ?_
            refine W_rd (rd_pick rfl rfl) rfl rfl rfl ?_
            refine W_rd (rd_assign rfl) rfl rfl rfl ?_
            refine W_nil ?_
            refine N_then ?_
            refine C_cond rfl (fun _ => ?_) (fun h => by cases h)
            refine C_seq ?_
            refine C_region ?_
            refine W_rd (rd_assign rfl) rfl rfl rfl ?_
            refine W_nil ?_
            refine N_then ?_
            refine C_ret ?_
            repeat (first | refine Rt_then ?_ | refine Rt_block ?_)
            refine Ret1 [] rfl rfl rfl rfl ⟨congrArg TV.i64 ?_, rfl⟩
            refine indexChk_ret hlen hI0.eq he ?_ (by decide)
            unfold Ent.chk
            simp only [decide_eq_true_eq, decide_eq_false_iff_not, Bool.not_eq_true', Bool.not_eq_false'] at *
            repeat' split
            all_goals first | rfl | omega | contradiction | (simp_all; done) | (simp_all; omega)
          ·
            refine W_gt rfl rfl rfl (op_rd (rd_fieldAddr fa173_1 rfl) rfl rfl ?_)
            first | refine W_gt rfl rfl rfl (op_load 0 rfl rfl sc3 rfl rfl ?_) | refine W_gt rfl rfl rfl (op_load 1 rfl rfl sc3 rfl rfl ?_) | refine W_gt rfl rfl rfl (op_load 2 rfl rfl sc3 rfl rfl ?_) | refine W_gt rfl rfl rfl (op_load 3 rfl rfl sc3 rfl rfl ?_) | refine W_gt rfl rfl rfl (op_load 4 rfl rfl sc3 rfl rfl ?_) | refine W_gt rfl rfl rfl (op_load 5 rfl rfl sc3 rfl rfl ?_) | refine W_gt rfl rfl rfl (op_load 6 rfl rfl sc3 rfl rfl ?_) | refine W_gt rfl rfl rfl (op_load 7 rfl rfl sc3 rfl rfl ?_)
            refine W_gt rfl rfl rfl (op_rd (rd_bin rfl rfl rfl) rfl rfl ?_)
            refine W_rd (rd_pick rfl rfl) rfl rfl rfl ?_
            refine W_rd (rd_move rfl) rfl rfl rfl ?_
            refine W_split (dd := 35) rfl (fun ht35 => ?_) (fun ht35 => ?_)
            ·
              refine W_gf rfl rfl rfl (by first | exact .inl rfl | exact .inr rfl) rfl rfl ?_
              refine W_gf rfl rfl rfl (by first | exact .inl rfl | exact .inr rfl) rfl rfl ?_
              refine W_gf rfl rfl rfl (by first | exact .inl rfl | exact .inr rfl) rfl rfl ?_
              refine W_rd (rd_pick rfl rfl) rfl rfl rfl ?_
              refine W_rd (rd_move rfl) rfl rfl rfl ?_
              refine W_gf rfl rfl rfl (by first | exact .inl rfl | exact .inr rfl) rfl rfl ?_
              refine W_gf rfl rfl rfl (by first | exact .inl rfl | exact .inr rfl) rfl rfl ?_
              refine W_gf rfl rfl rfl (by first | exact .inl rfl | exact .inr rfl) rfl rfl ?_
              refine W_rd (rd_pick rfl rfl) rfl rfl rfl ?_
              refine W_rd (rd_assign rfl) rfl rfl rfl ?_
              refine W_nil ?_
              refine N_then ?_
              refine C_cond rfl (fun _ => ?_) (fun h => by cases h)
              refine C_seq ?_
              refine C_region ?_
              refine W_rd (rd_assign rfl) rfl rfl rfl ?_
              refine W_nil ?_
              refine N_then ?_
              refine C_ret ?_
              repeat (first | refine Rt_then ?_ | refine Rt_block ?_)
              refine Ret1 [] rfl rfl rfl rfl ⟨congrArg TV.i64 ?_, rfl⟩
              refine indexChk_ret hlen hI0.eq he ?_ (by decide)
              unfold Ent.chk
              simp only [decide_eq_true_eq, decide_eq_false_iff_not, Bool.not_eq_true', Bool.not_eq_false'] at *
              repeat' split
              all_goals first | rfl | omega | contradiction | (simp_all; done) | (simp_all; omega)
            ·
              refine W_gt rfl rfl rfl (op_rd (rd_fieldAddr fa173_2 rfl) rfl rfl ?_)
              first | refine W_gt rfl rfl rfl (op_load 0 rfl rfl sc3 rfl rfl ?_) | refine W_gt rfl rfl rfl (op_load 1 rfl rfl sc3 rfl rfl ?_) | refine W_gt rfl rfl rfl (op_load 2 rfl rfl sc3 rfl rfl ?_) | refine W_gt rfl rfl rfl (op_load 3 rfl rfl sc3 rfl rfl ?_) | refine W_gt rfl rfl rfl (op_load 4 rfl rfl sc3 rfl rfl ?_) | refine W_gt rfl rfl rfl (op_load 5 rfl rfl sc3 rfl rfl ?_) | refine W_gt rfl rfl rfl (op_load 6 rfl rfl sc3 rfl rfl ?_) | refine W_gt rfl rfl rfl (op_load 7 rfl rfl sc3 rfl rfl ?_)
              refine W_gt rfl rfl rfl (op_rd (rd_bin rfl rfl rfl) rfl rfl ?_)
              refine W_rd (rd_pick rfl rfl) rfl rfl rfl ?_
              refine W_rd (rd_move rfl) rfl rfl rfl ?_
              refine W_split (dd := 40) rfl (fun ht40 => ?_) (fun ht40 => ?_)
              ·
                refine W_gf rfl rfl rfl (by first | exact .inl rfl | exact .inr rfl) rfl rfl ?_
                refine W_gf rfl rfl rfl (by first | exact .inl rfl | exact .inr rfl) rfl rfl ?_
                refine W_gf rfl rfl rfl (by first | exact .inl rfl | exact .inr rfl) rfl rfl ?_
                refine W_rd (rd_pick rfl rfl) rfl rfl rfl ?_
                refine W_rd (rd_assign rfl) rfl rfl rfl ?_
                refine W_nil ?_
                refine N_then ?_
                refine C_cond rfl (fun _ => ?_) (fun h => by cases h)
                refine C_seq ?_
                refine C_region ?_
                refine W_rd (rd_assign rfl) rfl rfl rfl ?_
                refine W_nil ?_
                refine N_then ?_
                refine C_ret ?_
                repeat (first | refine Rt_then ?_ | refine Rt_block ?_)
                refine Ret1 [] rfl rfl rfl rfl ⟨congrArg TV.i64 ?_, rfl⟩
                refine indexChk_ret hlen hI0.eq he ?_ (by decide)
                unfold Ent.chk
                simp only [decide_eq_true_eq, decide_eq_false_iff_not, Bool.not_eq_true', Bool.not_eq_false'] at *
                repeat' split
                all_goals first | rfl | omega | contradiction | (simp_all; done) | (simp_all; omega)
              ·
                refine W_gt rfl rfl rfl (op_rd (rd_fieldAddr fa173_2 rfl) rfl rfl ?_)
                first | refine W_gt rfl rfl rfl (op_load 0 rfl rfl sc3 rfl rfl ?_) | refine W_gt rfl rfl rfl (op_load 1 rfl rfl sc3 rfl rfl ?_) | refine W_gt rfl rfl rfl (op_load 2 rfl rfl sc3 rfl rfl ?_) | refine W_gt rfl rfl rfl (op_load 3 rfl rfl sc3 rfl rfl ?_) | refine W_gt rfl rfl rfl (op_load 4 rfl rfl sc3 rfl rfl ?_) | refine W_gt rfl rfl rfl (op_load 5 rfl rfl sc3 rfl rfl ?_) | refine W_gt rfl rfl rfl (op_load 6 rfl rfl sc3 rfl rfl ?_) | refine W_gt rfl rfl rfl (op_load 7 rfl rfl sc3 rfl rfl ?_)
                refine W_gt rfl rfl rfl (op_rd (rd_bin rfl rfl rfl) rfl rfl ?_)
                refine W_rd (rd_pick rfl rfl) rfl rfl rfl ?_
                refine W_rd (rd_assign rfl) rfl rfl rfl ?_
                refine W_nil ?_
                refine N_then ?_
                refine C_cond rfl (fun ht26 => ?_) (fun ht26 => ?_)
                ·
                  refine C_seq ?_
                  refine C_region ?_
                  refine W_rd (rd_assign rfl) rfl rfl rfl ?_
                  refine W_nil ?_
                  refine N_then ?_
                  refine C_ret ?_
                  repeat (first | refine Rt_then ?_ | refine Rt_block ?_)
                  refine Ret1 [] rfl rfl rfl rfl ⟨congrArg TV.i64 ?_, rfl⟩
                  refine indexChk_ret hlen hI0.eq he ?_ (by decide)
                  unfold Ent.chk
                  simp only [decide_eq_true_eq, decide_eq_false_iff_not, Bool.not_eq_true', Bool.not_eq_false'] at *
                  repeat' split
                  all_goals first | rfl | omega | contradiction | (simp_all; done) | (simp_all; omega)
                ·
                  refine C_seq ?_
                  rcases k with _ | k
                  ·
                    refine C_draw (by kernel_rfl) none _ _ (pickR_spec (is := []) rfl) ?_
                    intro c10 hle10 hsub10 back10
                    have hB := hsub10.blk 0 rfl
                    refine D_take (i := 0) rfl (by kernel_rfl) (rd_move rfl) rfl rfl rfl ?_
                    first | refine D_take (i := 1) rfl (by kernel_rfl) (rd_gt0z rfl rfl) rfl rfl rfl ?_ | refine D_take (i := 1) rfl (by kernel_rfl) (rd_gt0s rfl rfl) rfl rfl rfl ?_
                    refine D_take (i := 2) rfl (by kernel_rfl) (rd_move rfl) rfl rfl rfl ?_
                    refine D_takef (i := 3) rfl (by kernel_rfl) rfl rfl rfl rfl rfl (by first | exact .inl rfl | exact .inr rfl) ?_
                    refine D_takef (i := 4) rfl (by kernel_rfl) rfl rfl rfl rfl rfl (by first | exact .inl rfl | exact .inr rfl) ?_
                    refine D_takef (i := 5) rfl (by kernel_rfl) rfl rfl rfl rfl rfl (by first | exact .inl rfl | exact .inr rfl) ?_
                    refine D_takef (i := 6) rfl (by kernel_rfl) rfl rfl rfl rfl rfl (by first | exact .inl rfl | exact .inr rfl) ?_
                    refine D_takef (i := 7) rfl (by kernel_rfl) rfl rfl rfl rfl rfl (by first | exact .inl rfl | exact .inr rfl) ?_
                    refine D_takef (i := 8) rfl (by kernel_rfl) rfl rfl rfl rfl rfl (by first | exact .inl rfl | exact .inr rfl) ?_
                    refine D_takef (i := 9) rfl (by kernel_rfl) rfl rfl rfl rfl rfl (by first | exact .inl rfl | exact .inr rfl) ?_
                    refine D_takef (i := 10) rfl (by kernel_rfl) rfl rfl rfl rfl rfl (by first | exact .inl rfl | exact .inr rfl) ?_
                    refine D_takef (i := 11) rfl (by kernel_rfl) rfl rfl rfl rfl rfl (by first | exact .inl rfl | exact .inr rfl) ?_
                    refine D_take (i := 12) rfl (by kernel_rfl) (rd_pick rfl rfl) rfl rfl rfl ?_
                    refine D_take (i := 13) rfl (by kernel_rfl) (rd_assign rfl) rfl rfl rfl ?_
                    refine D_done (by kernel_rfl) back10 ?_
                    refine N_then ?_
                    refine C_cond rfl (fun h => by cases h) (fun _ => ?_)
                    refine C_seq ?_
                    refine C_draw (by kernel_rfl) none _ _ (pickR_spec (is := []) rfl) ?_
                    intro c12 hle12 hsub12 back12
                    have hB := hsub12.blk 0 rfl
                    refine D_take (i := 0) rfl (by kernel_rfl) (rd_move rfl) rfl rfl rfl ?_
                    first | refine D_take (i := 1) rfl (by kernel_rfl) (rd_gt0z rfl rfl) rfl rfl rfl ?_ | refine D_take (i := 1) rfl (by kernel_rfl) (rd_gt0s rfl rfl) rfl rfl rfl ?_
                    refine D_take (i := 2) rfl (by kernel_rfl) (rd_move rfl) rfl rfl rfl ?_
                    refine D_takef (i := 3) rfl (by kernel_rfl) rfl rfl rfl rfl rfl (by first | exact .inl rfl | exact .inr rfl) ?_
                    refine D_takef (i := 4) rfl (by kernel_rfl) rfl rfl rfl rfl rfl (by first | exact .inl rfl | exact .inr rfl) ?_
                    refine D_takef (i := 5) rfl (by kernel_rfl) rfl rfl rfl rfl rfl (by first | exact .inl rfl | exact .inr rfl) ?_
                    refine D_takef (i := 6) rfl (by kernel_rfl) rfl rfl rfl rfl rfl (by first | exact .inl rfl | exact .inr rfl) ?_
                    refine D_takef (i := 7) rfl (by kernel_rfl) rfl rfl rfl rfl rfl (by first | exact .inl rfl | exact .inr rfl) ?_
                    refine D_takef (i := 8) rfl (by kernel_rfl) rfl rfl rfl rfl rfl (by first | exact .inl rfl | exact .inr rfl) ?_
                    refine D_takef (i := 9) rfl (by kernel_rfl) rfl rfl rfl rfl rfl (by first | exact .inl rfl | exact .inr rfl) ?_
                    refine D_takef (i := 10) rfl (by kernel_rfl) rfl rfl rfl rfl rfl (by first | exact .inl rfl | exact .inr rfl) ?_
                    refine D_takef (i := 11) rfl (by kernel_rfl) rfl rfl rfl rfl rfl (by first | exact .inl rfl | exact .inr rfl) ?_
                    refine D_takef (i := 12) rfl (by kernel_rfl) rfl rfl rfl rfl rfl (by first | exact .inl rfl | exact .inr rfl) ?_
                    refine D_takef (i := 13) rfl (by kernel_rfl) rfl rfl rfl rfl rfl (by first | exact .inl rfl | exact .inr rfl) ?_
                    refine D_takef (i := 14) rfl (by kernel_rfl) rfl rfl rfl rfl rfl (by first | exact .inl rfl | exact .inr rfl) ?_
                    refine D_takef (i := 15) rfl (by kernel_rfl) rfl rfl rfl rfl rfl (by first | exact .inl rfl | exact .inr rfl) ?_
                    refine D_takef (i := 16) rfl (by kernel_rfl) rfl rfl rfl rfl rfl (by first | exact .inl rfl | exact .inr rfl) ?_
                    refine D_takef (i := 17) rfl (by kernel_rfl) rfl rfl rfl rfl rfl (by first | exact .inl rfl | exact .inr rfl) ?_
                    refine D_takef (i := 18) rfl (by kernel_rfl) rfl rfl rfl rfl rfl (by first | exact .inl rfl | exact .inr rfl) ?_
                    refine D_take (i := 19) rfl (by kernel_rfl) (rd_pick rfl rfl) rfl rfl rfl ?_
                    refine D_take (i := 20) rfl (by kernel_rfl) (rd_assign rfl) rfl rfl rfl ?_
                    refine D_done (by kernel_rfl) back12 ?_
                    refine N_then ?_
                    refine C_cond rfl (fun h => by cases h) (fun _ => ?_)
                    refine C_skip ?_
                    refine N_block ?_
                    refine N_block ?_
                    refine N_then ?_
                    refine C_region ?_
                    refine W_rd (rd_iadd rfl rfl (by omega)) rfl rfl rfl ?_
                    refine W_rd (rd_move rfl) rfl rfl rfl ?_
                    refine W_nil ?_
                    have hc0 : e.chk (prevOf l 0) = 0 := by unfold Ent.chk; simp only [decide_eq_true_eq, decide_eq_false_iff_not, Bool.not_eq_true', Bool.not_eq_false'] at *; repeat' split; all_goals first | rfl | omega | contradiction | (simp_all [prevOf]; done) | (simp_all [prevOf]; omega)
                    refine N_pick [] rfl (N_round (0 + 1) (hI0.step he hc0) (by omega) (subL.spec ⟨rfl, rfl, rfl, rfl, trivial⟩) (List.Perm.refl _))
                  ·
                    obtain ⟨pv, hpv⟩ : ∃ e, l[k]? = some e := ⟨l[k], by simp⟩
                    have hbd := hI0.bd pv hpv
                    refine C_draw (by kernel_rfl) none _ _ (pickR_spec (is := []) rfl) ?_
                    intro c10 hle10 hsub10 back10
                    have hB := hsub10.blk 0 rfl
                    refine D_take (i := 0) rfl (by kernel_rfl) (rd_move rfl) rfl rfl rfl ?_
                    first | refine D_take (i := 1) rfl (by kernel_rfl) (rd_gt0z rfl rfl) rfl rfl rfl ?_ | refine D_take (i := 1) rfl (by kernel_rfl) (rd_gt0s rfl rfl) rfl rfl rfl ?_
                    refine D_take (i := 2) rfl (by kernel_rfl) (rd_move rfl) rfl rfl rfl ?_
                    refine D_takeg (i := 3) rfl (by kernel_rfl) (rd_fieldAddr fa173_0 rfl) rfl rfl rfl rfl rfl ?_
                    first | refine D_takeg (i := 4) rfl (by kernel_rfl) (rd_load rfl hB sc9 rfl) rfl rfl rfl rfl rfl ?_
                    refine D_takeg (i := 5) rfl (by kernel_rfl) (rd_move rfl) rfl rfl rfl rfl rfl ?_
                    refine D_takeg (i := 6) rfl (by kernel_rfl) (rd_move rfl) rfl rfl rfl rfl rfl ?_
                    first | refine D_takeg (i := 7) rfl (by kernel_rfl) (rd_ipred rfl rfl (by omega)) rfl rfl rfl rfl rfl ?_
                    refine D_takeg (i := 8) rfl (by kernel_rfl) (rd_indexN sl170 (hR.mono hle10.2) rfl rfl (by omega)) rfl rfl rfl rfl rfl ?_
                    refine D_takeg (i := 9) rfl (by kernel_rfl) (rd_fieldAddr_elR fa173_0 rfl (RS.addr (hR.mono hle10.2) (by omega))) rfl rfl rfl rfl rfl ?_
                    refine D_takeg (i := 10) rfl (by kernel_rfl) (rd_load_el (hR.mono hle10.2) rfl sc9 (flat_cell (f := Ent.tv) (fun _ => rfl) hpv rfl)) rfl rfl rfl rfl rfl ?_
                    refine D_takeg (i := 11) rfl (by kernel_rfl) (rd_str rfl rfl rfl) rfl rfl rfl rfl rfl ?_
                    refine D_take (i := 12) rfl (by kernel_rfl) (rd_pick rfl rfl) rfl rfl rfl ?_
                    refine D_take (i := 13) rfl (by kernel_rfl) (rd_assign rfl) rfl rfl rfl ?_
                    refine D_done (by kernel_rfl) back10 ?_
                    refine N_then ?_
                    refine C_cond rfl (fun ht45 => ?_) (fun ht45 => ?_)
                    ·
                      refine C_seq ?_
                      refine C_region ?_
                      refine W_rd (rd_assign rfl) rfl rfl rfl ?_
                      refine W_nil ?_
                      refine N_then ?_
                      refine C_ret ?_
                      repeat (first | refine Rt_then ?_ | refine Rt_block ?_)
                      refine Ret1 [] rfl rfl rfl rfl ⟨congrArg TV.i64 ?_, rfl⟩
                      refine indexChk_ret hlen hI0.eq he ?_ (by decide)
                      simp only [prevOf, hpv, Ent.chk]
                      simp only [decide_eq_true_eq, decide_eq_false_iff_not, Bool.not_eq_true', Bool.not_eq_false'] at *
                      repeat' split
                      all_goals first | rfl | omega | contradiction | (simp_all; done) | (simp_all; omega)
                    ·
                      refine C_seq ?_
                      refine C_draw (by kernel_rfl) none _ _ (pickR_spec (is := []) rfl) ?_
                      intro c12 hle12 hsub12 back12
                      have hB := hsub12.blk 0 rfl
                      refine D_take (i := 0) rfl (by kernel_rfl) (rd_move rfl) rfl rfl rfl ?_
                      first | refine D_take (i := 1) rfl (by kernel_rfl) (rd_gt0z rfl rfl) rfl rfl rfl ?_ | refine D_take (i := 1) rfl (by kernel_rfl) (rd_gt0s rfl rfl) rfl rfl rfl ?_
                      refine D_take (i := 2) rfl (by kernel_rfl) (rd_move rfl) rfl rfl rfl ?_
                      refine D_takeg (i := 3) rfl (by kernel_rfl) (rd_fieldAddr fa173_1 rfl) rfl rfl rfl rfl rfl ?_
                      first | refine D_takeg (i := 4) rfl (by kernel_rfl) (rd_load rfl hB sc3 rfl) rfl rfl rfl rfl rfl ?_
                      refine D_takeg (i := 5) rfl (by kernel_rfl) (rd_move rfl) rfl rfl rfl rfl rfl ?_
                      refine D_takeg (i := 6) rfl (by kernel_rfl) (rd_move rfl) rfl rfl rfl rfl rfl ?_
                      first | refine D_takeg (i := 7) rfl (by kernel_rfl) (rd_ipred rfl rfl (by omega)) rfl rfl rfl rfl rfl ?_
                      refine D_takeg (i := 8) rfl (by kernel_rfl) (rd_indexN sl170 (hR.mono hle12.2) rfl rfl (by omega)) rfl rfl rfl rfl rfl ?_
                      refine D_takeg (i := 9) rfl (by kernel_rfl) (rd_fieldAddr_elR fa173_1 rfl (RS.addr (hR.mono hle12.2) (by omega))) rfl rfl rfl rfl rfl ?_
                      refine D_takeg (i := 10) rfl (by kernel_rfl) (rd_load_el (hR.mono hle12.2) rfl sc3 (flat_cell (f := Ent.tv) (fun _ => rfl) hpv rfl)) rfl rfl rfl rfl rfl ?_
                      refine D_takeg (i := 11) rfl (by kernel_rfl) (rd_move rfl) rfl rfl rfl rfl rfl ?_
                      refine D_takeg (i := 12) rfl (by kernel_rfl) (rd_move rfl) rfl rfl rfl rfl rfl ?_
                      first | refine D_takeg (i := 13) rfl (by kernel_rfl) (rd_ipred rfl rfl (by omega)) rfl rfl rfl rfl rfl ?_
                      refine D_takeg (i := 14) rfl (by kernel_rfl) (rd_indexN sl170 (hR.mono hle12.2) rfl rfl (by omega)) rfl rfl rfl rfl rfl ?_
                      refine D_takeg (i := 15) rfl (by kernel_rfl) (rd_fieldAddr_elR fa173_2 rfl (RS.addr (hR.mono hle12.2) (by omega))) rfl rfl rfl rfl rfl ?_
                      refine D_takeg (i := 16) rfl (by kernel_rfl) (rd_load_el (hR.mono hle12.2) rfl sc3 (flat_cell (f := Ent.tv) (fun _ => rfl) hpv rfl)) rfl rfl rfl rfl rfl ?_
                      refine D_takeg (i := 17) rfl (by kernel_rfl) (rd_iadd rfl rfl (by omega)) rfl rfl rfl rfl rfl ?_
                      refine D_takeg (i := 18) rfl (by kernel_rfl) (rd_bin rfl rfl rfl) rfl rfl rfl rfl rfl ?_
                      refine D_take (i := 19) rfl (by kernel_rfl) (rd_pick rfl rfl) rfl rfl rfl ?_
                      refine D_take (i := 20) rfl (by kernel_rfl) (rd_assign rfl) rfl rfl rfl ?_
                      refine D_done (by kernel_rfl) back12 ?_
                      refine N_then ?_
                      refine C_cond rfl (fun ht59 => ?_) (fun ht59 => ?_)
                      ·
                        refine C_seq ?_
                        refine C_region ?_
                        refine W_rd (rd_assign rfl) rfl rfl rfl ?_
                        refine W_nil ?_
                        refine N_then ?_
                        refine C_ret ?_
                        repeat (first | refine Rt_then ?_ | refine Rt_block ?_)
                        refine Ret1 [] rfl rfl rfl rfl ⟨congrArg TV.i64 ?_, rfl⟩
                        refine indexChk_ret hlen hI0.eq he ?_ (by decide)
                        simp only [prevOf, hpv, Ent.chk]
                        simp only [decide_eq_true_eq, decide_eq_false_iff_not, Bool.not_eq_true', Bool.not_eq_false'] at *
                        repeat' split
                        all_goals first | rfl | omega | contradiction | (simp_all; done) | (simp_all; omega)
                      ·
                        refine C_skip ?_
                        refine N_block ?_
                        refine N_block ?_
                        refine N_then ?_
                        refine C_region ?_
                        refine W_rd (rd_iadd rfl rfl (by omega)) rfl rfl rfl ?_
                        refine W_rd (rd_move rfl) rfl rfl rfl ?_
                        refine W_nil ?_
                        have hc0 : e.chk (prevOf l (k + 1)) = 0 := by simp only [prevOf, hpv, Ent.chk]; simp only [decide_eq_true_eq, decide_eq_false_iff_not, Bool.not_eq_true', Bool.not_eq_false'] at *; repeat' split; all_goals first | rfl | omega | contradiction | (simp_all; done) | (simp_all; omega)
                        refine N_pick [] rfl (N_round (k + 1 + 1) (hI0.step he hc0) (by omega) (subL.spec ⟨rfl, rfl, rfl, rfl, trivial⟩) (List.Perm.refl _))
    ·
      have hle := hI0.le
      obtain rfl : k = l.length := (by simp at ht11; omega)
      refine C_exit ?_
      repeat (first | refine X_then ?_ | refine X_here ?_ | refine X_block rfl ?_)
      refine N_then ?_
      refine C_seq ?_
      refine C_region ?_
      refine W_rd (rd_assign rfl) rfl rfl rfl ?_
      refine W_nil ?_
      refine N_then ?_
      refine C_ret ?_
      repeat (first | refine Rt_then ?_ | refine Rt_block ?_)
      refine Ret1 [] rfl rfl rfl rfl ⟨congrArg TV.i64 ?_, rfl⟩
      exact hI0.done hlen
set_option maxHeartbeats 1000000 in
theorem indexPut_c (A : Option Addr) (cp : Nat) (l : List Ent) :
    Tr Tryz.prog 100 [.sl A l.length cp] (fun o => RS o 3 A l.length cp (l.flatMap Ent.tv)) ([]) (fun x H' => (indexChk l = 0 ∧ ∃ A cp, x = .tup [.sl A (indexB l).length cp, .i64 0] ∧ H' = [Row 1 5 A (indexB l).length cp ((indexB l).map .u8)]) ∨ (indexChk l ≠ 0 ∧ x = .tup [.sl none 0 0, .i64 (indexChk l)] ∧ H' = [])) := by
  refine Tr_intro Tryz.func100 rfl rfl (fun c hR => ?_)
  refine C_seq ?_
  refine C_region ?_
  refine W_rd (rd_assign rfl) rfl rfl rfl ?_
  refine W_rd (rd_assign rfl) rfl rfl rfl ?_
  refine W_nil ?_
  refine N_then ?_
  refine C_seq ?_
  refine C_seq ?_
  refine C_region ?_
  refine W_rd (rd_move rfl) rfl rfl rfl ?_
  refine W_op rfl (op_call (indexCheck_c A cp l) Tryz.func187 rfl rfl rfl (pickR_spec (is := []) rfl) (fun o hle hsub => hR.mono hle) rfl ?_)
  rintro xt9 Ht9 ⟨rfl, rfl⟩
  refine W_rd (rd_assign rfl) rfl rfl rfl ?_
  refine W_nil ?_
  refine N_then ?_
  refine C_seq ?_
  refine C_region ?_
  refine W_rd (rd_move rfl) rfl rfl rfl ?_
  refine W_rd (rd_bin rfl rfl rfl) rfl rfl rfl ?_
  refine W_nil ?_
  refine N_then ?_
  refine C_cond rfl (fun ht11 => ?_) (fun ht11 => ?_)
  ·
    have hne : indexChk l ≠ 0 := by simpa using ht11
    refine C_seq ?_
    refine C_region ?_
    refine W_rd (rd_move rfl) rfl rfl rfl ?_
    refine W_rd (rd_assign rfl) rfl rfl rfl ?_
    refine W_rd (rd_assign rfl) rfl rfl rfl ?_
    refine W_nil ?_
    refine N_then ?_
    refine C_ret ?_
    repeat (first | refine Rt_then ?_ | refine Rt_block ?_)
    exact Ret2 [] rfl rfl rfl rfl rfl (.inr ⟨hne, rfl, rfl⟩)
  ·
    have h0 : indexChk l = 0 := by simpa using ht11
    obtain ⟨hn, hall⟩ := indexChk_ok h0
    have hB1 := uvar_length (UInt64.ofInt (l.length : Int))
    refine C_skip ?_
    refine N_then ?_
    refine C_seq ?_
    refine C_region ?_
    refine W_rd (rd_build la157 rfl rfl rfl) rfl rfl rfl ?_
    refine W_op rfl (op_box rfl (by first | exact .inl rfl | exact .inr ⟨_, rfl⟩) rfl ?_)
    intro gt14
    refine W_rd (rd_assign rfl) rfl rfl rfl ?_
    refine W_nil ?_
    refine N_then ?_
    refine C_seq ?_
    refine C_nil_row 1 5 ?_
    refine C_pack [1, 0] rfl (wr_mk (bs := []) rfl rfl) ?_
    refine C_region ?_
    refine W_rd (rd_move rfl) rfl rfl rfl ?_
    refine W_rd (rd_move rfl) rfl rfl rfl ?_
    refine W_rd (rd_len sl170.und rfl) rfl rfl rfl ?_
    refine W_rd (rd_conv un3 un121 rfl rfl) rfl rfl rfl ?_
    refine W_op rfl (op_call (wUint_c gt14 [] (UInt64.ofInt (l.length : Int)) (by simp)) Tryz.func165 rfl rfl rfl (pickR_spec (is := [0]) rfl) (fun _ _ _ => trivial) rfl ?_)
    rintro xt19 Ht19 ⟨rfl, rfl⟩
    refine W_nil ?_
    refine N_then ?_
    refine C_seq ?_
    refine C_seq ?_
    refine C_region ?_
    refine W_rd (rd_move rfl) rfl rfl rfl ?_
    refine W_rd (rd_len sl170.und rfl) rfl rfl rfl ?_
    refine W_rd (rd_move rfl) rfl rfl rfl ?_
    refine W_nil ?_
    refine N_then ?_
    refine C_block ?_
    refine C_loop (γ := Nat) (fun k => k ≤ l.length) (fun k => [(5, .ptr gt14 0), (20, .sl A l.length cp), (21, .i64 (l.length : Int)), (22, .i64 (k : Int))]) (fun k => [Wr gt14 (uvar (UInt64.ofInt (l.length : Int)) ++ entsB l k)]) (fun k => l.length - k) 0 ?hI0 (subL.spec ⟨rfl, rfl, rfl, rfl, trivial⟩) (by simp [entsB_zero]) ?_
    case hI0 => exact Nat.zero_le _
    rintro k hI0
    refine C_seq ?_
    refine C_region ?_
    refine W_rd (rd_bin rfl rfl rfl) rfl rfl rfl ?_
    refine W_nil ?_
    refine N_then ?_
    refine C_seq ?_
    refine C_cond rfl (fun ht23 => ?_) (fun ht23 => ?_)
    ·
      refine C_skip ?_
      refine N_then ?_
      refine C_seq ?_
      refine C_block ?_
      refine C_seq ?_
      have hk : k < l.length := (by simp at ht23; omega)
      obtain ⟨e, he⟩ : ∃ e, l[k]? = some e := ⟨l[k], by simp [hk]⟩
      have h63 := hR.le63
      have hB2 := entsB_length (fun e h => (hall e h).2.1) k
      have hB3 := uvar_length (UInt64.ofInt e.at_)
      have hB4 := uvar_length (UInt64.ofInt e.sz)
      obtain ⟨hb1, hb2, hb3, hb4, hb5, hb6⟩ := hall e (List.mem_of_getElem? he)
      refine C_region ?_
      refine W_rd (rd_move rfl) rfl rfl rfl ?_
      refine W_rd (rd_indexN sl170 hR rfl rfl (by omega)) rfl rfl rfl ?_
      refine W_rd (rd_loads_el hR rfl ag173 (flat_get (f := Ent.tv) (fun _ => rfl) he) rfl (by omega)) rfl rfl rfl ?_
      refine W_op rfl (op_alloc ze173 rfl ?_)
      intro gt7
      refine W_rd (rd_assign rfl) rfl rfl rfl ?_
      first | refine W_op rfl (op_sts 0 rfl rfl rfl ag173 rfl rfl rfl rfl ?_) | refine W_op rfl (op_sts 1 rfl rfl rfl ag173 rfl rfl rfl rfl ?_) | refine W_op rfl (op_sts 2 rfl rfl rfl ag173 rfl rfl rfl rfl ?_) | refine W_op rfl (op_sts 3 rfl rfl rfl ag173 rfl rfl rfl rfl ?_) | refine W_op rfl (op_sts 4 rfl rfl rfl ag173 rfl rfl rfl rfl ?_) | refine W_op rfl (op_sts 5 rfl rfl rfl ag173 rfl rfl rfl rfl ?_) | refine W_op rfl (op_sts 6 rfl rfl rfl ag173 rfl rfl rfl rfl ?_) | refine W_op rfl (op_sts 7 rfl rfl rfl ag173 rfl rfl rfl rfl ?_)
      refine W_nil ?_
      refine N_then ?_
      refine C_seq ?_
      refine C_seq ?_
      refine C_pick [1, 0] rfl ?_
      refine C_region ?_
      refine W_rd (rd_move rfl) rfl rfl rfl ?_
      refine W_rd (rd_bin rfl rfl rfl) rfl rfl rfl ?_
      refine W_nil ?_
      refine N_then ?_
      refine C_cond rfl (fun ht28 => ?_) (fun ht28 => ?_)
      ·
        obtain rfl : k = 0 := (by simp at ht28; omega)
        refine C_region ?_
        refine W_rd (rd_move rfl) rfl rfl rfl ?_
        refine W_rd (rd_fieldAddr fa173_1 rfl) rfl rfl rfl ?_
        first | refine W_op rfl (op_load 0 rfl rfl sc3 rfl rfl ?_) | refine W_op rfl (op_load 1 rfl rfl sc3 rfl rfl ?_) | refine W_op rfl (op_load 2 rfl rfl sc3 rfl rfl ?_) | refine W_op rfl (op_load 3 rfl rfl sc3 rfl rfl ?_) | refine W_op rfl (op_load 4 rfl rfl sc3 rfl rfl ?_) | refine W_op rfl (op_load 5 rfl rfl sc3 rfl rfl ?_) | refine W_op rfl (op_load 6 rfl rfl sc3 rfl rfl ?_) | refine W_op rfl (op_load 7 rfl rfl sc3 rfl rfl ?_)
        refine W_rd (rd_conv un3 un121 rfl rfl) rfl rfl rfl ?_
        refine W_op rfl (op_call (wUint_c gt14 _ (UInt64.ofInt e.at_) (by simp only [List.length_append, List.length_cons, List.length_nil]; omega)) Tryz.func165 rfl rfl rfl (pickR_spec (is := [0]) rfl) (fun _ _ _ => trivial) rfl ?_)
        rintro xt33 Ht33 ⟨rfl, rfl⟩
        refine W_nil ?_
        refine N_then ?_
        refine C_seq ?_
        refine C_region ?_
        refine W_rd (rd_move rfl) rfl rfl rfl ?_
        refine W_rd (rd_fieldAddr fa173_0 rfl) rfl rfl rfl ?_
        first | refine W_op rfl (op_load 0 rfl rfl sc9 rfl rfl ?_) | refine W_op rfl (op_load 1 rfl rfl sc9 rfl rfl ?_) | refine W_op rfl (op_load 2 rfl rfl sc9 rfl rfl ?_) | refine W_op rfl (op_load 3 rfl rfl sc9 rfl rfl ?_) | refine W_op rfl (op_load 4 rfl rfl sc9 rfl rfl ?_) | refine W_op rfl (op_load 5 rfl rfl sc9 rfl rfl ?_) | refine W_op rfl (op_load 6 rfl rfl sc9 rfl rfl ?_) | refine W_op rfl (op_load 7 rfl rfl sc9 rfl rfl ?_)
        refine W_rd (rd_slen un9 rfl) rfl rfl rfl ?_
        refine W_rd (rd_conv un3 un5 rfl rfl) rfl rfl rfl ?_
        refine W_op rfl (op_call (wByte_c gt14 _ (UInt8.ofInt (e.nm.length : Int)) (by simp only [List.length_append, List.length_cons, List.length_nil]; omega)) Tryz.func171 rfl rfl rfl (pickR_spec (is := [0]) rfl) (fun _ _ _ => trivial) rfl ?_)
        rintro xt39 Ht39 ⟨rfl, rfl⟩
        refine W_nil ?_
        refine N_then ?_
        refine C_seq ?_
        refine C_region ?_
        refine W_rd (rd_move rfl) rfl rfl rfl ?_
        refine W_rd (rd_fieldAddr fa173_0 rfl) rfl rfl rfl ?_
        first | refine W_op rfl (op_load 0 rfl rfl sc9 rfl rfl ?_) | refine W_op rfl (op_load 1 rfl rfl sc9 rfl rfl ?_) | refine W_op rfl (op_load 2 rfl rfl sc9 rfl rfl ?_) | refine W_op rfl (op_load 3 rfl rfl sc9 rfl rfl ?_) | refine W_op rfl (op_load 4 rfl rfl sc9 rfl rfl ?_) | refine W_op rfl (op_load 5 rfl rfl sc9 rfl rfl ?_) | refine W_op rfl (op_load 6 rfl rfl sc9 rfl rfl ?_) | refine W_op rfl (op_load 7 rfl rfl sc9 rfl rfl ?_)
        refine W_op rfl (op_str_bytes un9 un27 un5 rfl (by simp only [maxLen]; omega) rfl ?_)
        intro At43 ct43 hAt43
        refine W_op rfl (op_call (wPut_c gt14 _ e.nm At43 ct43 (by simp only [List.length_append, List.length_cons, List.length_nil]; omega)) Tryz.func97 rfl rfl rfl (pickR_spec (is := [1]) rfl) (fun o hle hsub => hsub.row 0 rfl) rfl ?_)
        rintro xt44 Ht44 ⟨rfl, rfl⟩
        refine W_nil ?_
        refine N_then ?_
        refine C_region ?_
        refine W_rd (rd_move rfl) rfl rfl rfl ?_
        refine W_rd (rd_fieldAddr fa173_2 rfl) rfl rfl rfl ?_
        first | refine W_op rfl (op_load 0 rfl rfl sc3 rfl rfl ?_) | refine W_op rfl (op_load 1 rfl rfl sc3 rfl rfl ?_) | refine W_op rfl (op_load 2 rfl rfl sc3 rfl rfl ?_) | refine W_op rfl (op_load 3 rfl rfl sc3 rfl rfl ?_) | refine W_op rfl (op_load 4 rfl rfl sc3 rfl rfl ?_) | refine W_op rfl (op_load 5 rfl rfl sc3 rfl rfl ?_) | refine W_op rfl (op_load 6 rfl rfl sc3 rfl rfl ?_) | refine W_op rfl (op_load 7 rfl rfl sc3 rfl rfl ?_)
        refine W_rd (rd_conv un3 un121 rfl rfl) rfl rfl rfl ?_
        refine W_op rfl (op_call (wUint_c gt14 _ (UInt64.ofInt e.sz) (by simp only [List.length_append, List.length_cons, List.length_nil]; omega)) Tryz.func165 rfl rfl rfl (pickR_spec (is := [0]) rfl) (fun _ _ _ => trivial) rfl ?_)
        rintro xt49 Ht49 ⟨rfl, rfl⟩
        refine W_nil ?_
        refine N_block ?_
        refine N_then ?_
        refine C_region ?_
        refine W_rd (rd_iadd rfl rfl (by omega)) rfl rfl rfl ?_
        refine W_rd (rd_move rfl) rfl rfl rfl ?_
        refine W_nil ?_
        refine N_pick [0] rfl (N_round (0 + 1) (by omega) (by omega) (subL.spec ⟨rfl, rfl, rfl, rfl, trivial⟩) (by rw [entsB_succ he]; simp [indexEnt]))
      ·
        have hk0 : k ≠ 0 := (by simp at ht28; omega)
        refine C_skip ?_
        refine N_then ?_
        refine C_seq ?_
        refine C_region ?_
        refine W_rd (rd_move rfl) rfl rfl rfl ?_
        refine W_rd (rd_fieldAddr fa173_0 rfl) rfl rfl rfl ?_
        first | refine W_op rfl (op_load 0 rfl rfl sc9 rfl rfl ?_) | refine W_op rfl (op_load 1 rfl rfl sc9 rfl rfl ?_) | refine W_op rfl (op_load 2 rfl rfl sc9 rfl rfl ?_) | refine W_op rfl (op_load 3 rfl rfl sc9 rfl rfl ?_) | refine W_op rfl (op_load 4 rfl rfl sc9 rfl rfl ?_) | refine W_op rfl (op_load 5 rfl rfl sc9 rfl rfl ?_) | refine W_op rfl (op_load 6 rfl rfl sc9 rfl rfl ?_) | refine W_op rfl (op_load 7 rfl rfl sc9 rfl rfl ?_)
        refine W_rd (rd_slen un9 rfl) rfl rfl rfl ?_
        refine W_rd (rd_conv un3 un5 rfl rfl) rfl rfl rfl ?_
        refine W_op rfl (op_call (wByte_c gt14 _ (UInt8.ofInt (e.nm.length : Int)) (by simp only [List.length_append, List.length_cons, List.length_nil]; omega)) Tryz.func171 rfl rfl rfl (pickR_spec (is := [0]) rfl) (fun _ _ _ => trivial) rfl ?_)
        rintro xt39 Ht39 ⟨rfl, rfl⟩
        refine W_nil ?_
        refine N_then ?_
        refine C_seq ?_
        refine C_region ?_
        refine W_rd (rd_move rfl) rfl rfl rfl ?_
        refine W_rd (rd_fieldAddr fa173_0 rfl) rfl rfl rfl ?_
        first | refine W_op rfl (op_load 0 rfl rfl sc9 rfl rfl ?_) | refine W_op rfl (op_load 1 rfl rfl sc9 rfl rfl ?_) | refine W_op rfl (op_load 2 rfl rfl sc9 rfl rfl ?_) | refine W_op rfl (op_load 3 rfl rfl sc9 rfl rfl ?_) | refine W_op rfl (op_load 4 rfl rfl sc9 rfl rfl ?_) | refine W_op rfl (op_load 5 rfl rfl sc9 rfl rfl ?_) | refine W_op rfl (op_load 6 rfl rfl sc9 rfl rfl ?_) | refine W_op rfl (op_load 7 rfl rfl sc9 rfl rfl ?_)
        refine W_op rfl (op_str_bytes un9 un27 un5 rfl (by simp only [maxLen]; omega) rfl ?_)
        intro At43 ct43 hAt43
        refine W_op rfl (op_call (wPut_c gt14 _ e.nm At43 ct43 (by simp only [List.length_append, List.length_cons, List.length_nil]; omega)) Tryz.func97 rfl rfl rfl (pickR_spec (is := [1]) rfl) (fun o hle hsub => hsub.row 0 rfl) rfl ?_)
        rintro xt44 Ht44 ⟨rfl, rfl⟩
        refine W_nil ?_
        refine N_then ?_
        refine C_region ?_
        refine W_rd (rd_move rfl) rfl rfl rfl ?_
        refine W_rd (rd_fieldAddr fa173_2 rfl) rfl rfl rfl ?_
        first | refine W_op rfl (op_load 0 rfl rfl sc3 rfl rfl ?_) | refine W_op rfl (op_load 1 rfl rfl sc3 rfl rfl ?_) | refine W_op rfl (op_load 2 rfl rfl sc3 rfl rfl ?_) | refine W_op rfl (op_load 3 rfl rfl sc3 rfl rfl ?_) | refine W_op rfl (op_load 4 rfl rfl sc3 rfl rfl ?_) | refine W_op rfl (op_load 5 rfl rfl sc3 rfl rfl ?_) | refine W_op rfl (op_load 6 rfl rfl sc3 rfl rfl ?_) | refine W_op rfl (op_load 7 rfl rfl sc3 rfl rfl ?_)
        refine W_rd (rd_conv un3 un121 rfl rfl) rfl rfl rfl ?_
        refine W_op rfl (op_call (wUint_c gt14 _ (UInt64.ofInt e.sz) (by simp only [List.length_append, List.length_cons, List.length_nil]; omega)) Tryz.func165 rfl rfl rfl (pickR_spec (is := [0]) rfl) (fun _ _ _ => trivial) rfl ?_)
        rintro xt49 Ht49 ⟨rfl, rfl⟩
        refine W_nil ?_
        refine N_block ?_
        refine N_then ?_
        refine C_region ?_
        refine W_rd (rd_iadd rfl rfl (by omega)) rfl rfl rfl ?_
        refine W_rd (rd_move rfl) rfl rfl rfl ?_
        refine W_nil ?_
        refine N_pick [0] rfl (N_round (k + 1) (by omega) (by omega) (subL.spec ⟨rfl, rfl, rfl, rfl, trivial⟩) (by rw [entsB_succ he]; simp [indexEnt, hk0]))
    ·
      refine C_exit ?_
      repeat (first | refine X_then ?_ | refine X_here ?_ | refine X_block rfl ?_)
      refine N_then ?_
      refine C_seq ?_
      obtain rfl : k = l.length := (by simp at ht23; omega)
      have hB2 := entsB_length (fun e h => (hall e h).2.1) l.length
      refine C_region ?_
      refine W_rd (rd_move rfl) rfl rfl rfl ?_
      refine W_op rfl (op_call (wBytes_c gt14 (indexBody l) (by simp only [indexBody, List.length_append]; omega)) Tryz.func88 rfl rfl rfl (pickR_spec (is := [0]) rfl) (fun _ _ _ => trivial) rfl ?_)
      rintro xt52 Ht52 ⟨A1, c1, rfl, rfl⟩
      refine W_op rfl (op_call (crcPut_c A1 c1 (indexBody l) (by simp only [indexBody, List.length_append]; omega)) Tryz.func102 rfl rfl rfl (pickR_spec (is := []) rfl) (fun o hle hsub => hsub.row 0 rfl) rfl ?_)
      rintro xt53 Ht53 ⟨A2, c2, rfl, rfl⟩
      refine W_rd (rd_assign rfl) rfl rfl rfl ?_
      refine W_rd (rd_assign rfl) rfl rfl rfl ?_
      refine W_nil ?_
      refine N_then ?_
      refine C_ret ?_
      repeat (first | refine Rt_then ?_ | refine Rt_block ?_)
      exact Ret2 [0] rfl rfl rfl rfl rfl (.inl ⟨h0, A2, c2, rfl, rfl⟩)
end Go.Hb.Wk4
