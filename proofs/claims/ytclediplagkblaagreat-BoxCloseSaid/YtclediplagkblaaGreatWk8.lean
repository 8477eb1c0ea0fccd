/- A part of the proofs of this seat: rules of a logic of owned and of lent memory, what functions compute, or their walks. -/
import Derived.Test.YtclediplagkblaaGreatCore12
import Derived.Test.YtclediplagkblaaGreatProg
import Derived.Test.YtclediplagkblaaGreatSp6
import Derived.Test.YtclediplagkblaaGreatWk7
set_option linter.unusedVariables false
set_option linter.unusedSimpArgs false
namespace Go.Hb.Wk8
open Go Go.Proofs
open Go.Hb.Wk1 Go.Hb.Wk2 Go.Hb.Wk3 Go.Hb.Wk4 Go.Hb.Wk6 Go.Hb.Wk7
theorem ze173 : Zero Tryz.prog 173 ([.str [], .i64 0, .i64 0]) := Zero.ofK (by kernel_rfl)
theorem ag173 : Aggr Tryz.prog 173 3 := ⟨fun _ => by kernel_rfl, fun _ => by kernel_rfl⟩
theorem fa173_2 : FA Tryz.prog 173 2 2 := fun _ _ => by kernel_rfl
theorem la173 : Lay Tryz.prog 173 ([.str [], .i64 0, .i64 0]) [(0, 1), (1, 1), (2, 1)] := Lay.ofK ze173 (by kernel_rfl)
theorem sc3 : Scal Tryz.prog 3 := ⟨fun _ => by kernel_rfl, fun _ => by kernel_rfl⟩
theorem sl170 : SlT Tryz.prog 170 173 3 32 := SlT.ofB (by kernel_rfl) rfl
theorem sl27 : SlT Tryz.prog 27 5 1 1 := SlT.ofB (by kernel_rfl) rfl
theorem un121 : Tryz.prog.underlying 121 = some (.int .u64) := by kernel_rfl
theorem un27 : Tryz.prog.underlying 27 = some (.slice 5) := by kernel_rfl
theorem un3 : Tryz.prog.underlying 3 = some (.int .i64) := by kernel_rfl
theorem un5 : Tryz.prog.underlying 5 = some (.int .u8) := by kernel_rfl
theorem un9 : Tryz.prog.underlying 9 = some (.string) := by kernel_rfl
set_option maxHeartbeats 2000000 in
theorem indexTake_c (A : Option Addr) (cp : Nat) (bs : List UInt8) (hb : bs.length < 2 ^ 40) :
    Tr Tryz.prog 113 [.sl A bs.length cp] (fun o => RS o 1 A bs.length cp (bs.map .u8)) ([]) (fun x H' => ((indexTake bs).1 = 0 ∧ ∃ A cp, x = .tup [.sl A (indexTake bs).2.length cp, .i64 0] ∧ H' = [Row 3 173 A (indexTake bs).2.length cp ((indexTake bs).2.flatMap Ent.tv)]) ∨ ((indexTake bs).1 ≠ 0 ∧ x = .tup [.sl none 0 0, .i64 (indexTake bs).1] ∧ H' = [])) := by
  refine Tr_intro Tryz.func113 rfl rfl (fun c hR => ?_)
  have h63 := hR.le63
  refine C_seq ?_
  refine C_region ?_
  refine W_rd (rd_assign rfl) rfl rfl rfl ?_
  refine W_rd (rd_assign rfl) rfl rfl rfl ?_
  refine W_nil ?_
  refine N_then ?_
  refine C_seq ?_
  refine C_seq ?_
  refine C_region ?_
  refine W_rd (rd_move rfl) rfl rfl rfl ?_
  refine W_rd (rd_len sl27.und rfl) rfl rfl rfl ?_
  refine W_rd (rd_bin rfl rfl rfl) rfl rfl rfl ?_
  refine W_nil ?_
  refine N_then ?_
  refine C_cond rfl (fun ht14 => ?_) (fun ht14 => ?_)
  ·
    refine C_seq ?_
    refine C_region ?_
    refine W_rd (rd_assign rfl) rfl rfl rfl ?_
    refine W_rd (rd_assign rfl) rfl rfl rfl ?_
    refine W_nil ?_
    refine N_then ?_
    refine C_ret ?_
    repeat (first | refine Rt_then ?_ | refine Rt_block ?_)
    have hz : indexTake bs = (3, []) := by rw [indexTake, if_pos (by have := of_decide_eq_true ht14; omega)]
    exact Ret2 [] rfl rfl rfl rfl rfl (.inr ⟨by rw [hz]; decide, by rw [hz]; try rfl, rfl⟩)
  ·
    have h4 := of_decide_eq_false ht14
    refine C_skip ?_
    refine N_then ?_
    refine C_seq ?_
    refine C_seq ?_
    refine C_region ?_
    refine W_rd (rd_move rfl) rfl rfl rfl ?_
    refine W_op rfl (op_call (crcRight_c A cp bs) Tryz.func111 rfl rfl rfl (pickR_spec (is := []) rfl) (fun o hle _ => hR.mono hle) rfl ?_)
    rintro xt16 Ht16 ⟨rfl, rfl⟩
    refine W_rd (rd_un rfl rfl) rfl rfl rfl ?_
    refine W_nil ?_
    refine N_then ?_
    refine C_cond rfl (fun ht17 => ?_) (fun ht17 => ?_)
    ·
      refine C_seq ?_
      refine C_region ?_
      refine W_rd (rd_assign rfl) rfl rfl rfl ?_
      refine W_rd (rd_assign rfl) rfl rfl rfl ?_
      refine W_nil ?_
      refine N_then ?_
      refine C_ret ?_
      repeat (first | refine Rt_then ?_ | refine Rt_block ?_)
      have hz : indexTake bs = (10, []) := by rw [indexTake, if_neg (by omega), if_pos (by simpa using ht17)]
      exact Ret2 [] rfl rfl rfl rfl rfl (.inr ⟨by rw [hz]; decide, by rw [hz]; try rfl, rfl⟩)
    ·
      have hcr : crcRight bs = true := by simpa using ht17
      have hRt := hR.cut (lo := 0) (hi := bs.length - 4) (mx := cp) (by omega) (by omega) (by have := hR.cap; omega) (Nat.le_refl _)
      have hcap := hR.cap
      have hlt : bs.length - 4 - 0 = (bs.take (bs.length - 4)).length := by simp
      have hRb : RS c.o 1 (cutA A 0 cp 1) (bs.take (bs.length - 4)).length (cp - 0) ((bs.take (bs.length - 4)).map .u8) := by rw [← hlt]; simpa using hRt
      have hbb : (bs.take (bs.length - 4)).length < 2 ^ 40 := by rw [← hlt]; omega
      have hi1 : indexTake bs = takeBody (bs.take (bs.length - 4)) := by rw [indexTake, if_neg (by omega), if_neg (by simp [hcr])]
      refine C_skip ?_
      refine N_then ?_
      refine C_seq ?_
      refine C_region ?_
      refine W_rd (rd_move rfl) rfl rfl rfl ?_
      refine W_rd (rd_move rfl) rfl rfl rfl ?_
      refine W_rd (rd_len sl27.und rfl) rfl rfl rfl ?_
      first | refine W_rd (rd_isubN (y := 4) rfl rfl (by omega) (by omega)) rfl rfl rfl ?_
      first | refine W_rd (rd_cut sl27 rfl rfl rfl (zl := 0) (by omega)) rfl rfl rfl ?_
      refine W_op rfl (op_call (rRead_n (cutA A 0 cp 1) (cp - 0) (bs.take (bs.length - 4)) hlt) Tryz.func69 rfl rfl rfl (pickR_spec (is := []) rfl) (fun _ _ _ => trivial) rfl ?_)
      rintro xt23 Ht23 ⟨gr, rfl, rfl⟩
      refine W_rd (rd_assign rfl) rfl rfl rfl ?_
      refine W_nil ?_
      refine N_then ?_
      refine C_seq ?_
      refine C_region ?_
      refine W_rd (rd_assign rfl) rfl rfl rfl ?_
      refine W_nil ?_
      refine N_then ?_
      refine C_seq ?_
      refine C_region ?_
      refine W_rd (rd_move rfl) rfl rfl rfl ?_
      refine W_op rfl (op_call (rUint_c gr (cutA A 0 cp 1) (cp - 0) (bs.take (bs.length - 4)) ⟨0, 0⟩ 1000 (Nat.zero_le _) hbb) Tryz.func72 rfl rfl rfl (pickR_spec (is := [0]) rfl) (fun o hle _ => hRb.mono hle) rfl ?_)
      rintro xt25 Ht25 ⟨rfl, rfl⟩
      have hn := tk1_le (bs.take (bs.length - 4))
      refine W_rd (rd_assign rfl) rfl rfl rfl ?_
      refine W_nil ?_
      refine N_then ?_
      refine C_seq ?_
      refine C_region ?_
      refine W_rd (rd_assign rfl) rfl rfl rfl ?_
      refine W_nil ?_
      refine N_then ?_
      refine C_seq ?_
      refine C_seq ?_
      refine C_region ?_
      refine W_rd (rd_move rfl) rfl rfl rfl ?_
      refine W_rd (rd_bin rfl rfl rfl) rfl rfl rfl ?_
      refine W_nil ?_
      refine N_then ?_
      refine C_join [(4, .ptr gr 0), (5, .sl none 0 0), (6, .u64 (tk1 (bs.take (bs.length - 4))).1), (7, .i64 ((tk2 (bs.take (bs.length - 4))).1.toNat : Int))] ([Rdr gr (cutA A 0 cp 1) (cp - 0) (bs.take (bs.length - 4)) (tk2 (bs.take (bs.length - 4))).2]) ?_ ?_
      ·
        refine C_cond rfl (fun ht27 => ?_) (fun ht27 => ?_)
        ·
          have ht2 := tk2_pos (bs := (bs.take (bs.length - 4))) (of_decide_eq_true ht27)
          refine C_region ?_
          refine W_rd (rd_move rfl) rfl rfl rfl ?_
          refine W_op rfl (op_call (rUint_c gr (cutA A 0 cp 1) (cp - 0) (bs.take (bs.length - 4)) (tk1 (bs.take (bs.length - 4))).2 1048576 (tk1_at _) hbb) Tryz.func72 rfl rfl rfl (pickR_spec (is := [0]) rfl) (fun o hle _ => hRb.mono hle) rfl ?_)
          rintro xt29 Ht29 ⟨rfl, rfl⟩
          have h20 := uint_le20 (bs := (bs.take (bs.length - 4))) (s := (tk1 (bs.take (bs.length - 4))).2)
          refine W_rd (rd_convi un121 un3 rfl (by omega)) rfl rfl rfl ?_
          refine W_rd (rd_assign rfl) rfl rfl rfl ?_
          refine W_nil ?_
          exact N_joined ⟨rfl, rfl, rfl, congrArg (fun t => some (TV.i64 t)) (by rw [ht2]; try rfl), trivial⟩ (by rw [ht2]; exact List.Perm.refl _)
        ·
          have ht2 := tk2_zero (bs := (bs.take (bs.length - 4))) (of_decide_eq_false ht27)
          refine C_skip ?_
          exact N_joined ⟨rfl, rfl, rfl, congrArg (fun t => some (TV.i64 t)) (by rw [ht2]; try rfl), trivial⟩ (by rw [ht2]; exact List.Perm.refl _)
      ·
        refine N_then ?_
        refine C_seq ?_
        refine C_seq ?_
        refine C_nil_row 3 173 ?_
        refine C_pick [1, 0] rfl ?_
        refine C_region ?_
        refine W_rd (rd_assign rfl) rfl rfl rfl ?_
        refine W_nil ?_
        refine N_then ?_
        refine C_block ?_
        refine C_loop (γ := TG) (fun g => TGI (bs.take (bs.length - 4)) (tk1 (bs.take (bs.length - 4))).1 (tk3 (bs.take (bs.length - 4))) g) (fun g => [(4, .ptr gr 0), (5, .sl g.A g.es.length g.cp), (6, .u64 (tk1 (bs.take (bs.length - 4))).1), (7, .i64 g.at_), (8, .u64 g.i)]) (fun g => [Rdr gr (cutA A 0 cp 1) (cp - 0) (bs.take (bs.length - 4)) g.s, Row 3 173 g.A g.es.length g.cp (g.es.flatMap Ent.tv)]) (fun g => (tk1 (bs.take (bs.length - 4))).1.toNat - g.i.toNat) ⟨(tk2 (bs.take (bs.length - 4))).2, ((tk2 (bs.take (bs.length - 4))).1.toNat : Int), [], 0, none, 0⟩ ?hI0 (subL.spec ⟨rfl, rfl, rfl, rfl, rfl, trivial⟩) (List.Perm.refl _) ?_
        case hI0 => exact TGI.init' _
        rintro g hI0
        refine C_seq ?_
        refine C_seq ?_
        refine C_join [(4, .ptr gr 0), (5, .sl g.A g.es.length g.cp), (6, .u64 (tk1 (bs.take (bs.length - 4))).1), (7, .i64 g.at_), (8, .u64 g.i), (38, .b (decide (g.i < (tk1 (bs.take (bs.length - 4))).1) && decide (g.s.err = 0)))] ([Rdr gr (cutA A 0 cp 1) (cp - 0) (bs.take (bs.length - 4)) g.s, Row 3 173 g.A g.es.length g.cp (g.es.flatMap Ent.tv)]) ?_ ?_
        ·
          refine C_region ?_
          refine W_rd (rd_move rfl) rfl rfl rfl ?_
          refine W_rd (rd_move rfl) rfl rfl rfl ?_
          refine W_rd (rd_bin rfl rfl rfl) rfl rfl rfl ?_
          refine W_rd (rd_move rfl) rfl rfl rfl ?_
          refine W_split (dd := 34) rfl (fun ht34 => ?_) (fun ht34 => ?_)
          ·
            refine W_gt rfl rfl rfl (op_rd (rd_move rfl) rfl rfl ?_)
            refine W_gt rfl rfl rfl (op_call (rErr_c gr (cutA A 0 cp 1) (cp - 0) (bs.take (bs.length - 4)) g.s) Tryz.func143 rfl rfl rfl (pickR_spec (is := [0]) rfl) (fun _ _ _ => trivial) rfl ?_)
            rintro xt36 Ht36 ⟨rfl, rfl⟩
            refine W_gt rfl rfl rfl (op_rd (rd_bin rfl rfl rfl) rfl rfl ?_)
            refine W_rd (rd_pick rfl rfl) rfl rfl rfl ?_
            refine W_nil ?_
            exact N_joined ⟨rfl, rfl, rfl, rfl, rfl, congrArg (fun t => some (TV.b t)) (by rw [ht34]; rfl), trivial⟩ (List.Perm.refl _)
          ·
            refine W_gf rfl rfl rfl (by first | exact .inl rfl | exact .inr rfl) rfl rfl ?_
            refine W_gf rfl rfl rfl (by first | exact .inl rfl | exact .inr rfl) rfl rfl ?_
            refine W_gf rfl rfl rfl (by first | exact .inl rfl | exact .inr rfl) rfl rfl ?_
            refine W_rd (rd_pick rfl rfl) rfl rfl rfl ?_
            refine W_nil ?_
            exact N_joined ⟨rfl, rfl, rfl, rfl, rfl, congrArg (fun t => some (TV.b t)) (by rw [ht34]; rfl), trivial⟩ (List.Perm.refl _)
        ·
          refine N_then ?_
          refine C_cond rfl (fun ht38 => ?_) (fun ht38 => ?_)
          ·
            have hc : g.i < (tk1 (bs.take (bs.length - 4))).1 ∧ g.s.err = 0 := by simpa using ht38
            have hi1' := u64_succ hc.1
            have hi2 := UInt64.lt_iff_toNat_lt.1 hc.1
            refine C_skip ?_
            refine N_then ?_
            refine C_seq ?_
            refine C_block ?_
            refine C_seq ?_
            refine C_joinE (α := Nat) (fun g9 => [(4, .ptr gr 0), (5, .sl g.A g.es.length g.cp), (6, .u64 (tk1 (bs.take (bs.length - 4))).1), (7, .i64 g.at_), (8, .u64 g.i), (9, .ptr g9 0)]) (fun g9 => [Blk g9 173 (g.ent (bs.take (bs.length - 4))).tv, Rdr gr (cutA A 0 cp 1) (cp - 0) (bs.take (bs.length - 4))  (g.r3 (bs.take (bs.length - 4))).2, Row 3 173 g.A g.es.length g.cp (g.es.flatMap Ent.tv)]) ?_ (fun g9 => ?_)
            ·
              refine C_draw (by kernel_rfl) none _ _ (pickR_spec (is := [0]) rfl) ?_
              intro c14 hle14 hsub14 back14
              refine D_take (i := 0) rfl (by kernel_rfl) (rd_move rfl) rfl rfl rfl ?_
              refine D_take (i := 1) rfl (by kernel_rfl) (rd_move rfl) rfl rfl rfl ?_
              refine D_take (i := 6) rfl (by kernel_rfl) (rd_move rfl) rfl rfl rfl ?_
              refine D_take (i := 7) rfl (by kernel_rfl) (rd_move rfl) rfl rfl rfl ?_
              refine D_two (i := 2) (j := 11) (by kernel_rfl) rfl rfl rfl rfl ?_ ?_
              ·
                first | refine op_call (rByte_c gr (cutA A 0 cp 1) (cp - 0) (bs.take (bs.length - 4)) g.s hI0.at_ hbb) Tryz.func75 rfl rfl rfl (pickR_spec (is := [0]) rfl) (fun o hle _ => hRb.mono (Hp.le_trans hle14.2 hle)) rfl ?_ | refine op_call (rByte_c gr (cutA A 0 cp 1) (cp - 0) (bs.take (bs.length - 4)) g.s hI0.at_ hbb) Tryz.func75 rfl rfl rfl (pickR_spec (is := [1]) rfl) (fun o hle _ => hRb.mono (Hp.le_trans hle14.2 hle)) rfl ?_
                rintro xt43 Ht43 ⟨rfl, rfl⟩
                refine D_take (i := 3) rfl (by kernel_rfl) (rd_conv un5 un3 rfl rfl) rfl rfl rfl ?_
                refine D_two (i := 4) (j := 11) (by kernel_rfl) rfl rfl rfl rfl ?_ ?_
                ·
                  first | refine op_call (rBytes_c gr (cutA A 0 cp 1) (cp - 0) (bs.take (bs.length - 4)) (g.r1 (bs.take (bs.length - 4))).2 (g.r1 (bs.take (bs.length - 4))).1.toNat (Rs.byte_at hI0.at_) hbb (by have := (g.r1 (bs.take (bs.length - 4))).1.toNat_lt; omega)) Tryz.func153 rfl rfl rfl (pickR_spec (is := [0]) rfl) (fun o hle _ => hRb.mono (Hp.le_trans hle14.2 hle)) rfl ?_ | refine op_call (rBytes_c gr (cutA A 0 cp 1) (cp - 0) (bs.take (bs.length - 4)) (g.r1 (bs.take (bs.length - 4))).2 (g.r1 (bs.take (bs.length - 4))).1.toNat (Rs.byte_at hI0.at_) hbb (by have := (g.r1 (bs.take (bs.length - 4))).1.toNat_lt; omega)) Tryz.func153 rfl rfl rfl (pickR_spec (is := [1]) rfl) (fun o hle _ => hRb.mono (Hp.le_trans hle14.2 hle)) rfl ?_
                  rintro xt45 Ht45 ⟨rfl, rfl⟩
                  have hRS := Rs.bytes_RS (g.r1 (bs.take (bs.length - 4))).1.toNat (hRb.mono hle14.2) (Rs.byte_at hI0.at_)
                  refine D_take (i := 5) rfl (by kernel_rfl) (rd_bytes_str un27 un5 un9 hRS rfl) rfl rfl rfl ?_
                  refine D_two (i := 8) (j := 11) (by kernel_rfl) rfl rfl rfl rfl ?_ ?_
                  ·
                    first | refine op_call (rUint_c gr (cutA A 0 cp 1) (cp - 0) (bs.take (bs.length - 4)) (g.r2 (bs.take (bs.length - 4))).2 1048576 (Rs.bytes_at (Rs.byte_at hI0.at_)) hbb) Tryz.func72 rfl rfl rfl (pickR_spec (is := [0]) rfl) (fun o hle _ => hRb.mono (Hp.le_trans hle14.2 hle)) rfl ?_ | refine op_call (rUint_c gr (cutA A 0 cp 1) (cp - 0) (bs.take (bs.length - 4)) (g.r2 (bs.take (bs.length - 4))).2 1048576 (Rs.bytes_at (Rs.byte_at hI0.at_)) hbb) Tryz.func72 rfl rfl rfl (pickR_spec (is := [1]) rfl) (fun o hle _ => hRb.mono (Hp.le_trans hle14.2 hle)) rfl ?_
                    rintro xt49 Ht49 ⟨rfl, rfl⟩
                    have h20 := uint_le20 (bs := (bs.take (bs.length - 4))) (s := (g.r2 (bs.take (bs.length - 4))).2)
                    refine D_take (i := 9) rfl (by kernel_rfl) (rd_convi un121 un3 rfl (by omega)) rfl rfl rfl ?_
                    refine D_take (i := 10) rfl (by kernel_rfl) (rd_build la173 rfl rfl rfl) rfl rfl rfl ?_
                    refine D_one (i := 11) (by kernel_rfl) rfl rfl (op_alloc ze173 rfl ?_)
                    intro gt9
                    first | refine D_one (i := 12) (by kernel_rfl) rfl rfl (op_sts 0 rfl rfl rfl ag173 rfl rfl rfl rfl ?_) | refine D_one (i := 12) (by kernel_rfl) rfl rfl (op_sts 1 rfl rfl rfl ag173 rfl rfl rfl rfl ?_) | refine D_one (i := 12) (by kernel_rfl) rfl rfl (op_sts 2 rfl rfl rfl ag173 rfl rfl rfl rfl ?_) | refine D_one (i := 12) (by kernel_rfl) rfl rfl (op_sts 3 rfl rfl rfl ag173 rfl rfl rfl rfl ?_) | refine D_one (i := 12) (by kernel_rfl) rfl rfl (op_sts 4 rfl rfl rfl ag173 rfl rfl rfl rfl ?_) | refine D_one (i := 12) (by kernel_rfl) rfl rfl (op_sts 5 rfl rfl rfl ag173 rfl rfl rfl rfl ?_) | refine D_one (i := 12) (by kernel_rfl) rfl rfl (op_sts 6 rfl rfl rfl ag173 rfl rfl rfl rfl ?_) | refine D_one (i := 12) (by kernel_rfl) rfl rfl (op_sts 7 rfl rfl rfl ag173 rfl rfl rfl rfl ?_)
                    refine D_done (by kernel_rfl) back14 ?_
                    exact N_joinedE gt9 ⟨rfl, rfl, rfl, rfl, rfl, rfl, trivial⟩ (by first | exact List.Perm.refl _ | exact List.Perm.swap _ _ _)
                  ·
                    refine op_alloc ze173 rfl ?_
                    intro gt9
                    first | refine D_one (i := 8) (by kernel_rfl) rfl rfl (op_call (rUint_c gr (cutA A 0 cp 1) (cp - 0) (bs.take (bs.length - 4)) (g.r2 (bs.take (bs.length - 4))).2 1048576 (Rs.bytes_at (Rs.byte_at hI0.at_)) hbb) Tryz.func72 rfl rfl rfl (pickR_spec (is := [0]) rfl) (fun o hle _ => hRb.mono (Hp.le_trans hle14.2 hle)) rfl ?_) | refine D_one (i := 8) (by kernel_rfl) rfl rfl (op_call (rUint_c gr (cutA A 0 cp 1) (cp - 0) (bs.take (bs.length - 4)) (g.r2 (bs.take (bs.length - 4))).2 1048576 (Rs.bytes_at (Rs.byte_at hI0.at_)) hbb) Tryz.func72 rfl rfl rfl (pickR_spec (is := [1]) rfl) (fun o hle _ => hRb.mono (Hp.le_trans hle14.2 hle)) rfl ?_)
                    rintro xt49 Ht49 ⟨rfl, rfl⟩
                    have h20 := uint_le20 (bs := (bs.take (bs.length - 4))) (s := (g.r2 (bs.take (bs.length - 4))).2)
                    refine D_take (i := 9) rfl (by kernel_rfl) (rd_convi un121 un3 rfl (by omega)) rfl rfl rfl ?_
                    refine D_take (i := 10) rfl (by kernel_rfl) (rd_build la173 rfl rfl rfl) rfl rfl rfl ?_
                    first | refine D_one (i := 12) (by kernel_rfl) rfl rfl (op_sts 0 rfl rfl rfl ag173 rfl rfl rfl rfl ?_) | refine D_one (i := 12) (by kernel_rfl) rfl rfl (op_sts 1 rfl rfl rfl ag173 rfl rfl rfl rfl ?_) | refine D_one (i := 12) (by kernel_rfl) rfl rfl (op_sts 2 rfl rfl rfl ag173 rfl rfl rfl rfl ?_) | refine D_one (i := 12) (by kernel_rfl) rfl rfl (op_sts 3 rfl rfl rfl ag173 rfl rfl rfl rfl ?_) | refine D_one (i := 12) (by kernel_rfl) rfl rfl (op_sts 4 rfl rfl rfl ag173 rfl rfl rfl rfl ?_) | refine D_one (i := 12) (by kernel_rfl) rfl rfl (op_sts 5 rfl rfl rfl ag173 rfl rfl rfl rfl ?_) | refine D_one (i := 12) (by kernel_rfl) rfl rfl (op_sts 6 rfl rfl rfl ag173 rfl rfl rfl rfl ?_) | refine D_one (i := 12) (by kernel_rfl) rfl rfl (op_sts 7 rfl rfl rfl ag173 rfl rfl rfl rfl ?_)
                    refine D_done (by kernel_rfl) back14 ?_
                    exact N_joinedE gt9 ⟨rfl, rfl, rfl, rfl, rfl, rfl, trivial⟩ (by first | exact List.Perm.refl _ | exact List.Perm.swap _ _ _)
                ·
                  refine op_alloc ze173 rfl ?_
                  intro gt9
                  first | refine D_one (i := 4) (by kernel_rfl) rfl rfl (op_call (rBytes_c gr (cutA A 0 cp 1) (cp - 0) (bs.take (bs.length - 4)) (g.r1 (bs.take (bs.length - 4))).2 (g.r1 (bs.take (bs.length - 4))).1.toNat (Rs.byte_at hI0.at_) hbb (by have := (g.r1 (bs.take (bs.length - 4))).1.toNat_lt; omega)) Tryz.func153 rfl rfl rfl (pickR_spec (is := [0]) rfl) (fun o hle _ => hRb.mono (Hp.le_trans hle14.2 hle)) rfl ?_) | refine D_one (i := 4) (by kernel_rfl) rfl rfl (op_call (rBytes_c gr (cutA A 0 cp 1) (cp - 0) (bs.take (bs.length - 4)) (g.r1 (bs.take (bs.length - 4))).2 (g.r1 (bs.take (bs.length - 4))).1.toNat (Rs.byte_at hI0.at_) hbb (by have := (g.r1 (bs.take (bs.length - 4))).1.toNat_lt; omega)) Tryz.func153 rfl rfl rfl (pickR_spec (is := [1]) rfl) (fun o hle _ => hRb.mono (Hp.le_trans hle14.2 hle)) rfl ?_)
                  rintro xt45 Ht45 ⟨rfl, rfl⟩
                  have hRS := Rs.bytes_RS (g.r1 (bs.take (bs.length - 4))).1.toNat (hRb.mono hle14.2) (Rs.byte_at hI0.at_)
                  refine D_take (i := 5) rfl (by kernel_rfl) (rd_bytes_str un27 un5 un9 hRS rfl) rfl rfl rfl ?_
                  first | refine D_one (i := 8) (by kernel_rfl) rfl rfl (op_call (rUint_c gr (cutA A 0 cp 1) (cp - 0) (bs.take (bs.length - 4)) (g.r2 (bs.take (bs.length - 4))).2 1048576 (Rs.bytes_at (Rs.byte_at hI0.at_)) hbb) Tryz.func72 rfl rfl rfl (pickR_spec (is := [0]) rfl) (fun o hle _ => hRb.mono (Hp.le_trans hle14.2 hle)) rfl ?_) | refine D_one (i := 8) (by kernel_rfl) rfl rfl (op_call (rUint_c gr (cutA A 0 cp 1) (cp - 0) (bs.take (bs.length - 4)) (g.r2 (bs.take (bs.length - 4))).2 1048576 (Rs.bytes_at (Rs.byte_at hI0.at_)) hbb) Tryz.func72 rfl rfl rfl (pickR_spec (is := [1]) rfl) (fun o hle _ => hRb.mono (Hp.le_trans hle14.2 hle)) rfl ?_)
                  rintro xt49 Ht49 ⟨rfl, rfl⟩
                  have h20 := uint_le20 (bs := (bs.take (bs.length - 4))) (s := (g.r2 (bs.take (bs.length - 4))).2)
                  refine D_take (i := 9) rfl (by kernel_rfl) (rd_convi un121 un3 rfl (by omega)) rfl rfl rfl ?_
                  refine D_take (i := 10) rfl (by kernel_rfl) (rd_build la173 rfl rfl rfl) rfl rfl rfl ?_
                  first | refine D_one (i := 12) (by kernel_rfl) rfl rfl (op_sts 0 rfl rfl rfl ag173 rfl rfl rfl rfl ?_) | refine D_one (i := 12) (by kernel_rfl) rfl rfl (op_sts 1 rfl rfl rfl ag173 rfl rfl rfl rfl ?_) | refine D_one (i := 12) (by kernel_rfl) rfl rfl (op_sts 2 rfl rfl rfl ag173 rfl rfl rfl rfl ?_) | refine D_one (i := 12) (by kernel_rfl) rfl rfl (op_sts 3 rfl rfl rfl ag173 rfl rfl rfl rfl ?_) | refine D_one (i := 12) (by kernel_rfl) rfl rfl (op_sts 4 rfl rfl rfl ag173 rfl rfl rfl rfl ?_) | refine D_one (i := 12) (by kernel_rfl) rfl rfl (op_sts 5 rfl rfl rfl ag173 rfl rfl rfl rfl ?_) | refine D_one (i := 12) (by kernel_rfl) rfl rfl (op_sts 6 rfl rfl rfl ag173 rfl rfl rfl rfl ?_) | refine D_one (i := 12) (by kernel_rfl) rfl rfl (op_sts 7 rfl rfl rfl ag173 rfl rfl rfl rfl ?_)
                  refine D_done (by kernel_rfl) back14 ?_
                  exact N_joinedE gt9 ⟨rfl, rfl, rfl, rfl, rfl, rfl, trivial⟩ (by first | exact List.Perm.refl _ | exact List.Perm.swap _ _ _)
              ·
                refine op_alloc ze173 rfl ?_
                intro gt9
                first | refine D_one (i := 2) (by kernel_rfl) rfl rfl (op_call (rByte_c gr (cutA A 0 cp 1) (cp - 0) (bs.take (bs.length - 4)) g.s hI0.at_ hbb) Tryz.func75 rfl rfl rfl (pickR_spec (is := [0]) rfl) (fun o hle _ => hRb.mono (Hp.le_trans hle14.2 hle)) rfl ?_) | refine D_one (i := 2) (by kernel_rfl) rfl rfl (op_call (rByte_c gr (cutA A 0 cp 1) (cp - 0) (bs.take (bs.length - 4)) g.s hI0.at_ hbb) Tryz.func75 rfl rfl rfl (pickR_spec (is := [1]) rfl) (fun o hle _ => hRb.mono (Hp.le_trans hle14.2 hle)) rfl ?_)
                rintro xt43 Ht43 ⟨rfl, rfl⟩
                refine D_take (i := 3) rfl (by kernel_rfl) (rd_conv un5 un3 rfl rfl) rfl rfl rfl ?_
                first | refine D_one (i := 4) (by kernel_rfl) rfl rfl (op_call (rBytes_c gr (cutA A 0 cp 1) (cp - 0) (bs.take (bs.length - 4)) (g.r1 (bs.take (bs.length - 4))).2 (g.r1 (bs.take (bs.length - 4))).1.toNat (Rs.byte_at hI0.at_) hbb (by have := (g.r1 (bs.take (bs.length - 4))).1.toNat_lt; omega)) Tryz.func153 rfl rfl rfl (pickR_spec (is := [0]) rfl) (fun o hle _ => hRb.mono (Hp.le_trans hle14.2 hle)) rfl ?_) | refine D_one (i := 4) (by kernel_rfl) rfl rfl (op_call (rBytes_c gr (cutA A 0 cp 1) (cp - 0) (bs.take (bs.length - 4)) (g.r1 (bs.take (bs.length - 4))).2 (g.r1 (bs.take (bs.length - 4))).1.toNat (Rs.byte_at hI0.at_) hbb (by have := (g.r1 (bs.take (bs.length - 4))).1.toNat_lt; omega)) Tryz.func153 rfl rfl rfl (pickR_spec (is := [1]) rfl) (fun o hle _ => hRb.mono (Hp.le_trans hle14.2 hle)) rfl ?_)
                rintro xt45 Ht45 ⟨rfl, rfl⟩
                have hRS := Rs.bytes_RS (g.r1 (bs.take (bs.length - 4))).1.toNat (hRb.mono hle14.2) (Rs.byte_at hI0.at_)
                refine D_take (i := 5) rfl (by kernel_rfl) (rd_bytes_str un27 un5 un9 hRS rfl) rfl rfl rfl ?_
                first | refine D_one (i := 8) (by kernel_rfl) rfl rfl (op_call (rUint_c gr (cutA A 0 cp 1) (cp - 0) (bs.take (bs.length - 4)) (g.r2 (bs.take (bs.length - 4))).2 1048576 (Rs.bytes_at (Rs.byte_at hI0.at_)) hbb) Tryz.func72 rfl rfl rfl (pickR_spec (is := [0]) rfl) (fun o hle _ => hRb.mono (Hp.le_trans hle14.2 hle)) rfl ?_) | refine D_one (i := 8) (by kernel_rfl) rfl rfl (op_call (rUint_c gr (cutA A 0 cp 1) (cp - 0) (bs.take (bs.length - 4)) (g.r2 (bs.take (bs.length - 4))).2 1048576 (Rs.bytes_at (Rs.byte_at hI0.at_)) hbb) Tryz.func72 rfl rfl rfl (pickR_spec (is := [1]) rfl) (fun o hle _ => hRb.mono (Hp.le_trans hle14.2 hle)) rfl ?_)
                rintro xt49 Ht49 ⟨rfl, rfl⟩
                have h20 := uint_le20 (bs := (bs.take (bs.length - 4))) (s := (g.r2 (bs.take (bs.length - 4))).2)
                refine D_take (i := 9) rfl (by kernel_rfl) (rd_convi un121 un3 rfl (by omega)) rfl rfl rfl ?_
                refine D_take (i := 10) rfl (by kernel_rfl) (rd_build la173 rfl rfl rfl) rfl rfl rfl ?_
                first | refine D_one (i := 12) (by kernel_rfl) rfl rfl (op_sts 0 rfl rfl rfl ag173 rfl rfl rfl rfl ?_) | refine D_one (i := 12) (by kernel_rfl) rfl rfl (op_sts 1 rfl rfl rfl ag173 rfl rfl rfl rfl ?_) | refine D_one (i := 12) (by kernel_rfl) rfl rfl (op_sts 2 rfl rfl rfl ag173 rfl rfl rfl rfl ?_) | refine D_one (i := 12) (by kernel_rfl) rfl rfl (op_sts 3 rfl rfl rfl ag173 rfl rfl rfl rfl ?_) | refine D_one (i := 12) (by kernel_rfl) rfl rfl (op_sts 4 rfl rfl rfl ag173 rfl rfl rfl rfl ?_) | refine D_one (i := 12) (by kernel_rfl) rfl rfl (op_sts 5 rfl rfl rfl ag173 rfl rfl rfl rfl ?_) | refine D_one (i := 12) (by kernel_rfl) rfl rfl (op_sts 6 rfl rfl rfl ag173 rfl rfl rfl rfl ?_) | refine D_one (i := 12) (by kernel_rfl) rfl rfl (op_sts 7 rfl rfl rfl ag173 rfl rfl rfl rfl ?_)
                refine D_done (by kernel_rfl) back14 ?_
                exact N_joinedE gt9 ⟨rfl, rfl, rfl, rfl, rfl, rfl, trivial⟩ (by first | exact List.Perm.refl _ | exact List.Perm.swap _ _ _)
            ·
              refine N_then ?_
              refine C_seq ?_
              have hgl := hI0.len
              have hgi := hI0.le
              have hg0 := hI0.b0
              have hg1 := hI0.b1
              have h20 : (g.r3 (bs.take (bs.length - 4))).1.toNat ≤ 1048576 := uint_le20
              have hsz : (g.ent (bs.take (bs.length - 4))).sz = ((g.r3 (bs.take (bs.length - 4))).1.toNat : Int) := rfl
              refine C_region ?_
              refine W_rd (rd_move rfl) rfl rfl rfl ?_
              first | refine W_op rfl (op_loads 0 rfl rfl ag173 rfl rfl rfl ?_) | refine W_op rfl (op_loads 1 rfl rfl ag173 rfl rfl rfl ?_) | refine W_op rfl (op_loads 2 rfl rfl ag173 rfl rfl rfl ?_) | refine W_op rfl (op_loads 3 rfl rfl ag173 rfl rfl rfl ?_) | refine W_op rfl (op_loads 4 rfl rfl ag173 rfl rfl rfl ?_) | refine W_op rfl (op_loads 5 rfl rfl ag173 rfl rfl rfl ?_) | refine W_op rfl (op_loads 6 rfl rfl ag173 rfl rfl rfl ?_) | refine W_op rfl (op_loads 7 rfl rfl ag173 rfl rfl rfl ?_)
              refine W_op rfl (op_slice sl170 ze173 rfl rfl rfl rfl rfl rfl (by omega) rfl ?_)
              intro At54 hAt54
              refine W_op rfl (op_append 3 sl170 rfl rfl rfl (Src.ofRow 0 rfl rfl) rfl (by omega) rfl ?_)
              intro At55 ct55 Ht55 hHt55; obtain rfl := Option.some.inj hHt55
              refine W_rd (rd_assign rfl) rfl rfl rfl ?_
              refine W_nil ?_
              refine N_then ?_
              refine C_region ?_
              refine W_rd (rd_move rfl) rfl rfl rfl ?_
              refine W_rd (rd_fieldAddr fa173_2 rfl) rfl rfl rfl ?_
              first | refine W_op rfl (op_load 0 rfl rfl sc3 rfl rfl ?_) | refine W_op rfl (op_load 1 rfl rfl sc3 rfl rfl ?_) | refine W_op rfl (op_load 2 rfl rfl sc3 rfl rfl ?_) | refine W_op rfl (op_load 3 rfl rfl sc3 rfl rfl ?_) | refine W_op rfl (op_load 4 rfl rfl sc3 rfl rfl ?_) | refine W_op rfl (op_load 5 rfl rfl sc3 rfl rfl ?_) | refine W_op rfl (op_load 6 rfl rfl sc3 rfl rfl ?_) | refine W_op rfl (op_load 7 rfl rfl sc3 rfl rfl ?_)
              refine W_rd (rd_iadd rfl rfl (by omega)) rfl rfl rfl ?_
              refine W_rd (rd_assign rfl) rfl rfl rfl ?_
              refine W_nil ?_
              refine N_block ?_
              refine N_then ?_
              refine C_region ?_
              refine W_rd (rd_move rfl) rfl rfl rfl ?_
              refine W_rd (rd_bin rfl rfl rfl) rfl rfl rfl ?_
              refine W_rd (rd_assign rfl) rfl rfl rfl ?_
              refine W_nil ?_
              refine N_pick [2, 2] rfl (N_round ⟨(g.r3 (bs.take (bs.length - 4))).2, g.at_ + ((g.r3 (bs.take (bs.length - 4))).1.toNat : Int), g.es ++ [g.ent (bs.take (bs.length - 4))], g.i + 1, At55, ct55⟩ (hI0.step hc.1 hc.2) (by simp only [hi1']; omega) (subL.spec ⟨rfl, (by simp only [List.length_append]; rfl), rfl, rfl, rfl, trivial⟩) (by simp [TG.ent, Ent.tv]))
          ·
            have hend := hI0.end_ (by simpa using ht38)
            refine C_exit ?_
            repeat (first | refine X_then ?_ | refine X_here ?_ | refine X_block rfl ?_)
            refine N_then ?_
            refine C_seq ?_
            refine C_seq ?_
            refine C_region ?_
            refine W_rd (rd_move rfl) rfl rfl rfl ?_
            refine W_op rfl (op_call (rEnd_c gr (cutA A 0 cp 1) (cp - 0) (bs.take (bs.length - 4)) g.s hI0.at_ hbb) Tryz.func80 rfl rfl rfl (pickR_spec (is := [0]) rfl) (fun _ _ _ => trivial) rfl ?_)
            rintro xt61 Ht61 ⟨rfl, rfl⟩
            refine W_rd (rd_assign rfl) rfl rfl rfl ?_
            refine W_nil ?_
            refine N_then ?_
            refine C_seq ?_
            refine C_region ?_
            refine W_rd (rd_move rfl) rfl rfl rfl ?_
            refine W_rd (rd_bin rfl rfl rfl) rfl rfl rfl ?_
            refine W_nil ?_
            refine N_then ?_
            refine C_cond rfl (fun ht63 => ?_) (fun ht63 => ?_)
            ·
              refine C_seq ?_
              refine C_region ?_
              refine W_rd (rd_move rfl) rfl rfl rfl ?_
              refine W_rd (rd_assign rfl) rfl rfl rfl ?_
              refine W_rd (rd_assign rfl) rfl rfl rfl ?_
              refine W_nil ?_
              refine N_then ?_
              refine C_ret ?_
              repeat (first | refine Rt_then ?_ | refine Rt_block ?_)
              have h0 : Rs.end_ (bs.take (bs.length - 4)) g.s ≠ 0 := by simpa using ht63
              have hz : indexTake bs = (Rs.end_ (bs.take (bs.length - 4)) g.s, []) := by rw [hi1, takeBody, hend]; simp only []; rw [if_pos h0]
              exact Ret2 [] rfl rfl rfl rfl rfl (.inr ⟨by rw [hz]; exact h0, by rw [hz]; try rfl, rfl⟩)
            ·
              refine C_skip ?_
              refine N_then ?_
              refine C_seq ?_
              refine C_seq ?_
              refine C_region ?_
              refine W_rd (rd_move rfl) rfl rfl rfl ?_
              refine W_op rfl (op_call (indexCheck_c g.A g.cp g.es) Tryz.func187 rfl rfl rfl (pickR_spec (is := []) rfl) (fun o hle hsub => hsub.row 1 rfl) rfl ?_)
              rintro xt66 Ht66 ⟨rfl, rfl⟩
              refine W_rd (rd_assign rfl) rfl rfl rfl ?_
              refine W_nil ?_
              refine N_then ?_
              refine C_seq ?_
              refine C_region ?_
              refine W_rd (rd_move rfl) rfl rfl rfl ?_
              refine W_rd (rd_bin rfl rfl rfl) rfl rfl rfl ?_
              refine W_nil ?_
              refine N_then ?_
              refine C_cond rfl (fun ht68 => ?_) (fun ht68 => ?_)
              ·
                refine C_seq ?_
                refine C_region ?_
                refine W_rd (rd_move rfl) rfl rfl rfl ?_
                refine W_rd (rd_assign rfl) rfl rfl rfl ?_
                refine W_rd (rd_assign rfl) rfl rfl rfl ?_
                refine W_nil ?_
                refine N_then ?_
                refine C_ret ?_
                repeat (first | refine Rt_then ?_ | refine Rt_block ?_)
                have h0 : Rs.end_ (bs.take (bs.length - 4)) g.s = 0 := by simpa using ht63
                have h1 : indexChk g.es ≠ 0 := by simpa using ht68
                have hz : indexTake bs = (indexChk g.es, []) := by rw [hi1, takeBody, hend]; simp only []; rw [if_neg (by simp [h0]), if_pos h1]
                exact Ret2 [] rfl rfl rfl rfl rfl (.inr ⟨by rw [hz]; exact h1, by rw [hz]; try rfl, rfl⟩)
              ·
                refine C_skip ?_
                refine N_then ?_
                refine C_seq ?_
                refine C_region ?_
                refine W_rd (rd_move rfl) rfl rfl rfl ?_
                refine W_rd (rd_assign rfl) rfl rfl rfl ?_
                refine W_rd (rd_assign rfl) rfl rfl rfl ?_
                refine W_nil ?_
                refine N_then ?_
                refine C_ret ?_
                repeat (first | refine Rt_then ?_ | refine Rt_block ?_)
                have h0 : Rs.end_ (bs.take (bs.length - 4)) g.s = 0 := by simpa using ht63
                have h1 : indexChk g.es = 0 := by simpa using ht68
                have hz : indexTake bs = (0, g.es) := by rw [hi1, takeBody, hend]; simp only []; rw [if_neg (by simp [h0]), if_neg (by simp [h1])]
                exact Ret2 [1] rfl rfl rfl rfl rfl (.inl ⟨by rw [hz], g.A, g.cp, by rw [hz], by rw [hz]⟩)
theorem indexTake_n {n : Nat} (A : Option Addr) (cp : Nat) (bs : List UInt8) (hb : bs.length < 2 ^ 40) (hn : n = bs.length) : Tr Tryz.prog 113 [.sl A n cp] (fun o => RS o 1 A n cp (bs.map .u8)) [] (fun x H' => ((indexTake bs).1 = 0 ∧ ∃ A cp, x = .tup [.sl A (indexTake bs).2.length cp, .i64 0] ∧ H' = [Row 3 173 A (indexTake bs).2.length cp ((indexTake bs).2.flatMap Ent.tv)]) ∨ ((indexTake bs).1 ≠ 0 ∧ x = .tup [.sl none 0 0, .i64 (indexTake bs).1] ∧ H' = [])) := by
  subst hn; exact indexTake_c A cp bs hb
end Go.Hb.Wk8
