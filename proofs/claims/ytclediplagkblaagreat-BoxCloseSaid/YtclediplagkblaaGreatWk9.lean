/- A part of the proofs of this seat: rules of a logic of owned and of lent memory, what functions compute, or their walks. -/
import Derived.Test.YtclediplagkblaaGreatCore12
import Derived.Test.YtclediplagkblaaGreatProg
import Derived.Test.YtclediplagkblaaGreatSp7
import Derived.Test.YtclediplagkblaaGreatWk8
set_option linter.unusedVariables false
set_option linter.unusedSimpArgs false
namespace Go.Hb.Wk9
open Go Go.Proofs
open Go.Hb.Wk1 Go.Hb.Wk2 Go.Hb.Wk3 Go.Hb.Wk4 Go.Hb.Wk6 Go.Hb.Wk7 Go.Hb.Wk8
theorem ze173 : Zero Tryz.prog 173 ([.str [], .i64 0, .i64 0]) := Zero.ofK (by kernel_rfl)
theorem ze178 : Zero Tryz.prog 178 ([.sl none 0 0, .sl none 0 0]) := Zero.ofK (by kernel_rfl)
theorem ze5 : Zero Tryz.prog 5 ([.u8 0]) := Zero.ofK (by kernel_rfl)
theorem ag173 : Aggr Tryz.prog 173 3 := ⟨fun _ => by kernel_rfl, fun _ => by kernel_rfl⟩
theorem ag71 : Aggr Tryz.prog 71 2 := ⟨fun _ => by kernel_rfl, fun _ => by kernel_rfl⟩
theorem fa173_1 : FA Tryz.prog 173 1 1 := fun _ _ => by kernel_rfl
theorem fa173_2 : FA Tryz.prog 173 2 2 := fun _ _ => by kernel_rfl
theorem fa71_0 : FA Tryz.prog 71 0 0 := fun _ _ => by kernel_rfl
theorem fa71_1 : FA Tryz.prog 71 1 1 := fun _ _ => by kernel_rfl
theorem la178 : Lay Tryz.prog 178 ([.sl none 0 0, .sl none 0 0]) [(0, 1), (1, 1)] := Lay.ofK ze178 (by kernel_rfl)
theorem sc3 : Scal Tryz.prog 3 := ⟨fun _ => by kernel_rfl, fun _ => by kernel_rfl⟩
theorem sl170 : SlT Tryz.prog 170 173 3 32 := SlT.ofB (by kernel_rfl) rfl
theorem sl27 : SlT Tryz.prog 27 5 1 1 := SlT.ofB (by kernel_rfl) rfl
theorem un27 : Tryz.prog.underlying 27 = some (.slice 5) := by kernel_rfl
theorem un3 : Tryz.prog.underlying 3 = some (.int .i64) := by kernel_rfl
theorem un40 : Tryz.prog.underlying 40 = some (.int .u32) := by kernel_rfl
theorem un5 : Tryz.prog.underlying 5 = some (.int .u8) := by kernel_rfl
theorem un9 : Tryz.prog.underlying 9 = some (.string) := by kernel_rfl
set_option maxHeartbeats 2000000 in
theorem open_c (A : Option Addr) (cp : Nat) (bs : List UInt8) (a b : Int) :
    Tr Tryz.prog 39 [.sl A bs.length cp, .agg [.i64 a, .i64 b]] (fun o => RS o 1 A bs.length cp (bs.map .u8)) ([]) (fun x H' => ((openR bs a b).1 = 0 ∧ ∃ g A1 c1 A2 c2, x = .tup [.ptr g 0, .i64 0] ∧ H' = [Blk g 178 [.sl A1 bs.length c1, .sl A2 (openR bs a b).2.length c2], Row 1 5 A1 bs.length c1 (bs.map .u8), Row 3 173 A2 (openR bs a b).2.length c2 ((openR bs a b).2.flatMap Ent.tv)]) ∨ ((openR bs a b).1 ≠ 0 ∧ x = .tup [.nilp, .i64 (openR bs a b).1] ∧ H' = [])) := by
  refine Tr_intro Tryz.func39 rfl rfl (fun c hR => ?_)
  have h63 := hR.le63
  have hcap := hR.cap
  refine C_seq ?_
  refine C_region ?_
  refine W_op rfl (op_box rfl (by first | exact .inl rfl | exact .inr ⟨_, rfl⟩) rfl ?_)
  intro gt3
  refine W_rd (rd_assign rfl) rfl rfl rfl ?_
  refine W_rd (rd_assign rfl) rfl rfl rfl ?_
  refine W_nil ?_
  refine N_then ?_
  refine C_seq ?_
  refine C_region ?_
  first | refine W_op rfl (op_loads 0 rfl rfl ag71 rfl rfl rfl ?_) | refine W_op rfl (op_loads 1 rfl rfl ag71 rfl rfl rfl ?_) | refine W_op rfl (op_loads 2 rfl rfl ag71 rfl rfl rfl ?_) | refine W_op rfl (op_loads 3 rfl rfl ag71 rfl rfl rfl ?_) | refine W_op rfl (op_loads 4 rfl rfl ag71 rfl rfl rfl ?_) | refine W_op rfl (op_loads 5 rfl rfl ag71 rfl rfl rfl ?_) | refine W_op rfl (op_loads 6 rfl rfl ag71 rfl rfl rfl ?_) | refine W_op rfl (op_loads 7 rfl rfl ag71 rfl rfl rfl ?_)
  refine W_op rfl (op_call (within_c a b) Tryz.func96 rfl rfl rfl (pickR_spec (is := []) rfl) (fun _ _ _ => trivial) rfl ?_)
  rintro xt15 Ht15 ⟨rfl, rfl⟩
  first | refine W_op rfl (op_sts 0 rfl rfl rfl ag71 rfl rfl rfl rfl ?_) | refine W_op rfl (op_sts 1 rfl rfl rfl ag71 rfl rfl rfl rfl ?_) | refine W_op rfl (op_sts 2 rfl rfl rfl ag71 rfl rfl rfl rfl ?_) | refine W_op rfl (op_sts 3 rfl rfl rfl ag71 rfl rfl rfl rfl ?_) | refine W_op rfl (op_sts 4 rfl rfl rfl ag71 rfl rfl rfl rfl ?_) | refine W_op rfl (op_sts 5 rfl rfl rfl ag71 rfl rfl rfl rfl ?_) | refine W_op rfl (op_sts 6 rfl rfl rfl ag71 rfl rfl rfl rfl ?_) | refine W_op rfl (op_sts 7 rfl rfl rfl ag71 rfl rfl rfl rfl ?_)
  refine W_nil ?_
  refine N_then ?_
  refine C_seq ?_
  refine C_block ?_
  refine C_seq ?_
  refine C_region ?_
  refine W_rd (rd_move rfl) rfl rfl rfl ?_
  refine W_rd (rd_len sl27.und rfl) rfl rfl rfl ?_
  refine W_rd (rd_fieldAddr fa71_1 rfl) rfl rfl rfl ?_
  first | refine W_op rfl (op_load 0 rfl rfl sc3 rfl rfl ?_) | refine W_op rfl (op_load 1 rfl rfl sc3 rfl rfl ?_) | refine W_op rfl (op_load 2 rfl rfl sc3 rfl rfl ?_) | refine W_op rfl (op_load 3 rfl rfl sc3 rfl rfl ?_) | refine W_op rfl (op_load 4 rfl rfl sc3 rfl rfl ?_) | refine W_op rfl (op_load 5 rfl rfl sc3 rfl rfl ?_) | refine W_op rfl (op_load 6 rfl rfl sc3 rfl rfl ?_) | refine W_op rfl (op_load 7 rfl rfl sc3 rfl rfl ?_)
  refine W_rd (rd_bin rfl rfl rfl) rfl rfl rfl ?_
  refine W_rd (rd_assign rfl) rfl rfl rfl ?_
  refine W_nil ?_
  refine N_then ?_
  refine C_cond rfl (fun ht16 => ?_) (fun ht16 => ?_)
  ·
    refine C_seq ?_
    refine C_region ?_
    refine W_rd (rd_assign rfl) rfl rfl rfl ?_
    refine W_rd (rd_assign rfl) rfl rfl rfl ?_
    refine W_nil ?_
    refine N_then ?_
    refine C_ret ?_
    repeat (first | refine Rt_then ?_ | refine Rt_block ?_)
    have hz : openR bs a b = (6, []) := by rw [openR, if_pos (of_decide_eq_true ht16)]
    exact Ret2 [] rfl rfl rfl rfl rfl (.inr ⟨by rw [hz]; first | decide | exact h0, by rw [hz], rfl⟩)
  ·
    have h1 := of_decide_eq_false ht16
    refine C_seq ?_
    refine C_region ?_
    refine W_rd (rd_move rfl) rfl rfl rfl ?_
    refine W_rd (rd_len sl27.und rfl) rfl rfl rfl ?_
    refine W_rd (rd_bin rfl rfl rfl) rfl rfl rfl ?_
    refine W_rd (rd_assign rfl) rfl rfl rfl ?_
    refine W_nil ?_
    refine N_then ?_
    refine C_cond rfl (fun ht22 => ?_) (fun ht22 => ?_)
    ·
      refine C_seq ?_
      refine C_region ?_
      refine W_rd (rd_assign rfl) rfl rfl rfl ?_
      refine W_rd (rd_assign rfl) rfl rfl rfl ?_
      refine W_nil ?_
      refine N_then ?_
      refine C_ret ?_
      repeat (first | refine Rt_then ?_ | refine Rt_block ?_)
      have hz : openR bs a b = (3, []) := by rw [openR, if_neg h1, if_pos (by have := of_decide_eq_true ht22; omega)]
      exact Ret2 [] rfl rfl rfl rfl rfl (.inr ⟨by rw [hz]; first | decide | exact h0, by rw [hz], rfl⟩)
    ·
      have h2 := of_decide_eq_false ht22
      have hRS' := hR.cut (lo := 0) (hi := 6) (mx := cp) (by omega) (by omega) (by omega) (Nat.le_refl _)
      have hRS : RS c.o 1 (cutA A 0 cp 1) (6 - 0) (cp - 0) ((bs.take 6).map .u8) := by simpa using hRS'
      refine C_seq ?_
      refine C_region ?_
      refine W_rd (rd_move rfl) rfl rfl rfl ?_
      first | refine W_rd (rd_cut sl27 rfl rfl rfl (zl := 0) (zh := 6) (by omega)) rfl rfl rfl ?_
      refine W_rd (rd_bytes_str un27 un5 un9 hRS rfl) rfl rfl rfl ?_
      refine W_rd (rd_str rfl rfl rfl) rfl rfl rfl ?_
      refine W_rd (rd_assign rfl) rfl rfl rfl ?_
      refine W_nil ?_
      refine N_then ?_
      refine C_cond rfl (fun ht26 => ?_) (fun ht26 => ?_)
      ·
        refine C_seq ?_
        refine C_region ?_
        refine W_rd (rd_assign rfl) rfl rfl rfl ?_
        refine W_rd (rd_assign rfl) rfl rfl rfl ?_
        refine W_nil ?_
        refine N_then ?_
        refine C_ret ?_
        repeat (first | refine Rt_then ?_ | refine Rt_block ?_)
        have hz : openR bs a b = (16, []) := by rw [openR, if_neg h1, if_neg (by omega), if_pos (by simpa [magic] using ht26)]
        exact Ret2 [] rfl rfl rfl rfl rfl (.inr ⟨by rw [hz]; first | decide | exact h0, by rw [hz], rfl⟩)
      ·
        have h3 : bs.take 6 = magic := by simpa [magic] using ht26
        have hfl : bs.length - (bs.length - 12) = (footOf bs).length := by simp [footOf]
        have hRf' := hR.cut (lo := bs.length - 12) (hi := bs.length) (mx := cp) (by omega) (by omega) (by omega) (Nat.le_refl _)
        have hRf : RS c.o 1 (cutA A (bs.length - 12) cp 1) (bs.length - (bs.length - 12)) (cp - (bs.length - 12)) ((footOf bs).map .u8) := by rw [footOf, List.map_drop]; rw [List.take_of_length_le (by simp)] at hRf'; simpa using hRf'
        have hRg := hRf
        rw [hfl] at hRg
        have hbm : bs.length ≤ 1048576 := by omega
        have hfb : (footOf bs).length < 2 ^ 40 := by rw [← hfl]; omega
        refine C_seq ?_
        refine C_region ?_
        refine W_rd (rd_move rfl) rfl rfl rfl ?_
        refine W_rd (rd_move rfl) rfl rfl rfl ?_
        refine W_rd (rd_len sl27.und rfl) rfl rfl rfl ?_
        first | refine W_rd (rd_isubN (y := 12) rfl rfl (by omega) (by omega)) rfl rfl rfl ?_
        first | refine W_rd (rd_cut sl27 rfl rfl rfl (by omega)) rfl rfl rfl ?_
        refine W_op rfl (op_call (crcRight_n (cutA A (bs.length - 12) cp 1) (cp - (bs.length - 12)) (footOf bs) hfl) Tryz.func111 rfl rfl rfl (pickR_spec (is := []) rfl) (fun o hle _ => hRf.mono hle) rfl ?_)
        rintro xt37 Ht37 ⟨rfl, rfl⟩
        refine W_rd (rd_un rfl rfl) rfl rfl rfl ?_
        refine W_rd (rd_assign rfl) rfl rfl rfl ?_
        refine W_nil ?_
        refine N_then ?_
        refine C_cond rfl (fun ht31 => ?_) (fun ht31 => ?_)
        ·
          refine C_seq ?_
          refine C_region ?_
          refine W_rd (rd_assign rfl) rfl rfl rfl ?_
          refine W_rd (rd_assign rfl) rfl rfl rfl ?_
          refine W_nil ?_
          refine N_then ?_
          refine C_ret ?_
          repeat (first | refine Rt_then ?_ | refine Rt_block ?_)
          have hz : openR bs a b = (10, []) := by rw [openR, if_neg h1, if_neg (by omega), if_neg (by simp [h3]), if_pos (by simpa using ht31)]
          exact Ret2 [] rfl rfl rfl rfl rfl (.inr ⟨by rw [hz]; first | decide | exact h0, by rw [hz], rfl⟩)
        ·
          have h4 : crcRight (footOf bs) = true := by simpa using ht31
          refine C_skip ?_
          refine N_block ?_
          refine N_then ?_
          refine C_seq ?_
          refine C_region ?_
          refine W_rd (rd_move rfl) rfl rfl rfl ?_
          refine W_rd (rd_move rfl) rfl rfl rfl ?_
          refine W_rd (rd_len sl27.und rfl) rfl rfl rfl ?_
          first | refine W_rd (rd_isubN (y := 12) rfl rfl (by omega) (by omega)) rfl rfl rfl ?_
          first | refine W_rd (rd_cut sl27 rfl rfl rfl (by omega)) rfl rfl rfl ?_
          refine W_op rfl (op_call (rRead_n (cutA A (bs.length - 12) cp 1) (cp - (bs.length - 12)) (footOf bs) hfl) Tryz.func69 rfl rfl rfl (pickR_spec (is := []) rfl) (fun _ _ _ => trivial) rfl ?_)
          rintro xt44 Ht44 ⟨gr, rfl, rfl⟩
          refine W_rd (rd_assign rfl) rfl rfl rfl ?_
          refine W_nil ?_
          refine N_then ?_
          refine C_seq ?_
          refine C_region ?_
          refine W_rd (rd_move rfl) rfl rfl rfl ?_
          refine W_op rfl (op_call (rWord_c gr (cutA A (bs.length - 12) cp 1) (cp - (bs.length - 12)) (footOf bs) ⟨0, 0⟩ (Nat.zero_le _) hfb) Tryz.func112 rfl rfl rfl (pickR_spec (is := [0]) rfl) (fun o hle _ => hRg.mono hle) rfl ?_)
          rintro xt46 Ht46 ⟨rfl, rfl⟩
          refine W_rd (rd_conv un40 un3 rfl rfl) rfl rfl rfl ?_
          refine W_rd (rd_move rfl) rfl rfl rfl ?_
          refine W_op rfl (op_call (rWord_c gr (cutA A (bs.length - 12) cp 1) (cp - (bs.length - 12)) (footOf bs) (ow1 bs).2 (Rs.word_at (Nat.zero_le _)) hfb) Tryz.func112 rfl rfl rfl (pickR_spec (is := [0]) rfl) (fun o hle _ => hRg.mono hle) rfl ?_)
          rintro xt49 Ht49 ⟨rfl, rfl⟩
          refine W_rd (rd_conv un40 un3 rfl rfl) rfl rfl rfl ?_
          refine W_rd (rd_assign rfl) rfl rfl rfl ?_
          refine W_rd (rd_assign rfl) rfl rfl rfl ?_
          refine W_nil ?_
          refine N_then ?_
          refine C_seq ?_
          refine C_seq ?_
          refine C_join [(0, .sl A bs.length cp), (3, .ptr gt3 0), (7, .i64 (oAt bs : Int)), (8, .i64 (oN bs : Int)), (67, .b (oBad bs))] ([Blk gt3 71 [.i64 (min (max a 0) 1000), .i64 (min (max b 0) 1048576)]]) ?_ ?_
          ·
            have ha32 : (Rs.word (footOf bs) ⟨0, 0⟩).1.toNat < 4294967296 := (ow1 bs).1.toNat_lt
            have hn32 : (Rs.word (footOf bs) (ow1 bs).2).1.toNat < 4294967296 := (ow2 bs).1.toNat_lt
            refine C_region ?_
            refine W_rd (rd_move rfl) rfl rfl rfl ?_
            refine W_rd (rd_bin rfl rfl rfl) rfl rfl rfl ?_
            refine W_rd (rd_move rfl) rfl rfl rfl ?_
            refine W_split (dd := 53) rfl (fun ht53 => ?_) (fun ht53 => ?_)
            ·
              refine W_gf rfl rfl rfl (by first | exact .inl rfl | exact .inr rfl) rfl rfl ?_
              refine W_gf rfl rfl rfl (by first | exact .inl rfl | exact .inr rfl) rfl rfl ?_
              refine W_gf rfl rfl rfl (by first | exact .inl rfl | exact .inr rfl) rfl rfl ?_
              refine W_gf rfl rfl rfl (by first | exact .inl rfl | exact .inr rfl) rfl rfl ?_
              refine W_rd (rd_pick rfl rfl) rfl rfl rfl ?_
              refine W_rd (rd_move rfl) rfl rfl rfl ?_
              refine W_gf rfl rfl rfl (by first | exact .inl rfl | exact .inr rfl) rfl rfl ?_
              refine W_gf rfl rfl rfl (by first | exact .inl rfl | exact .inr rfl) rfl rfl ?_
              refine W_gf rfl rfl rfl (by first | exact .inl rfl | exact .inr rfl) rfl rfl ?_
              refine W_gf rfl rfl rfl (by first | exact .inl rfl | exact .inr rfl) rfl rfl ?_
              refine W_gf rfl rfl rfl (by first | exact .inl rfl | exact .inr rfl) rfl rfl ?_
              refine W_gf rfl rfl rfl (by first | exact .inl rfl | exact .inr rfl) rfl rfl ?_
              refine W_gf rfl rfl rfl (by first | exact .inl rfl | exact .inr rfl) rfl rfl ?_
              refine W_rd (rd_pick rfl rfl) rfl rfl rfl ?_
              refine W_nil ?_
              refine N_pick [1] rfl (N_joined ⟨rfl, rfl, rfl, rfl, congrArg (fun t => some (TV.b t)) (?_ : _ = oBad bs), trivial⟩ (List.Perm.refl _))
              unfold oBad
              first | (simp only [show decide ((oAt bs : Int) < 6) = true from ht53]; rfl) | (simp only [show decide ((oAt bs : Int) < 6) = false from ht53, show decide ((bs.length : Int) < (oN bs : Int)) = true from ht59]; rfl) | (simp only [show decide ((oAt bs : Int) < 6) = false from ht53, show decide ((bs.length : Int) < (oN bs : Int)) = false from ht59]; rfl)
            ·
              refine W_gt rfl rfl rfl (op_rd (rd_move rfl) rfl rfl ?_)
              refine W_gt rfl rfl rfl (op_rd (rd_move rfl) rfl rfl ?_)
              refine W_gt rfl rfl rfl (op_rd (rd_len sl27.und rfl) rfl rfl ?_)
              refine W_gt rfl rfl rfl (op_rd (rd_bin rfl rfl rfl) rfl rfl ?_)
              refine W_rd (rd_pick rfl rfl) rfl rfl rfl ?_
              refine W_rd (rd_move rfl) rfl rfl rfl ?_
              refine W_split (dd := 59) rfl (fun ht59 => ?_) (fun ht59 => ?_)
              ·
                refine W_gf rfl rfl rfl (by first | exact .inl rfl | exact .inr rfl) rfl rfl ?_
                refine W_gf rfl rfl rfl (by first | exact .inl rfl | exact .inr rfl) rfl rfl ?_
                refine W_gf rfl rfl rfl (by first | exact .inl rfl | exact .inr rfl) rfl rfl ?_
                refine W_gf rfl rfl rfl (by first | exact .inl rfl | exact .inr rfl) rfl rfl ?_
                refine W_gf rfl rfl rfl (by first | exact .inl rfl | exact .inr rfl) rfl rfl ?_
                refine W_gf rfl rfl rfl (by first | exact .inl rfl | exact .inr rfl) rfl rfl ?_
                refine W_gf rfl rfl rfl (by first | exact .inl rfl | exact .inr rfl) rfl rfl ?_
                refine W_rd (rd_pick rfl rfl) rfl rfl rfl ?_
                refine W_nil ?_
                refine N_pick [1] rfl (N_joined ⟨rfl, rfl, rfl, rfl, congrArg (fun t => some (TV.b t)) (?_ : _ = oBad bs), trivial⟩ (List.Perm.refl _))
                unfold oBad
                first | (simp only [show decide ((oAt bs : Int) < 6) = true from ht53]; rfl) | (simp only [show decide ((oAt bs : Int) < 6) = false from ht53, show decide ((bs.length : Int) < (oN bs : Int)) = true from ht59]; rfl) | (simp only [show decide ((oAt bs : Int) < 6) = false from ht53, show decide ((bs.length : Int) < (oN bs : Int)) = false from ht59]; rfl)
              ·
                refine W_gt rfl rfl rfl (op_rd (rd_move rfl) rfl rfl ?_)
                refine W_gt rfl rfl rfl (op_rd (rd_move rfl) rfl rfl ?_)
                refine W_gt rfl rfl rfl (op_rd (rd_iadd rfl rfl (by omega)) rfl rfl ?_)
                refine W_gt rfl rfl rfl (op_rd (rd_iadd rfl rfl (by omega)) rfl rfl ?_)
                refine W_gt rfl rfl rfl (op_rd (rd_move rfl) rfl rfl ?_)
                refine W_gt rfl rfl rfl (op_rd (rd_len sl27.und rfl) rfl rfl ?_)
                refine W_gt rfl rfl rfl (op_rd (rd_bin rfl rfl rfl) rfl rfl ?_)
                refine W_rd (rd_pick rfl rfl) rfl rfl rfl ?_
                refine W_nil ?_
                refine N_pick [1] rfl (N_joined ⟨rfl, rfl, rfl, rfl, congrArg (fun t => some (TV.b t)) (?_ : _ = oBad bs), trivial⟩ (List.Perm.refl _))
                unfold oBad
                first | (simp only [show decide ((oAt bs : Int) < 6) = true from ht53]; rfl) | (simp only [show decide ((oAt bs : Int) < 6) = false from ht53, show decide ((bs.length : Int) < (oN bs : Int)) = true from ht59]; rfl) | (simp only [show decide ((oAt bs : Int) < 6) = false from ht53, show decide ((bs.length : Int) < (oN bs : Int)) = false from ht59]; rfl)
          ·
            refine N_then ?_
            refine C_cond rfl (fun ht67 => ?_) (fun ht67 => ?_)
            ·
              refine C_seq ?_
              refine C_region ?_
              refine W_rd (rd_assign rfl) rfl rfl rfl ?_
              refine W_rd (rd_assign rfl) rfl rfl rfl ?_
              refine W_nil ?_
              refine N_then ?_
              refine C_ret ?_
              repeat (first | refine Rt_then ?_ | refine Rt_block ?_)
              have hz : openR bs a b = (4, []) := by rw [openR, if_neg h1, if_neg (by omega), if_neg (by simp [h3]), if_neg (by simp [h4]), if_pos ht67]
              exact Ret2 [] rfl rfl rfl rfl rfl (.inr ⟨by rw [hz]; first | decide | exact h0, by rw [hz], rfl⟩)
            ·
              have h5 : oBad bs = false := ht67
              have h5' := h5
              simp only [oBad, Bool.or_eq_false_iff, decide_eq_false_iff_not, Bool.not_eq_false', decide_eq_true_eq] at h5'
              obtain ⟨⟨h51, h52⟩, h53⟩ := h5'
              have hbl : oAt bs + oN bs - oAt bs = (oBody bs).length := by simp [oBody]; omega
              have hob : (oBody bs).length < 2 ^ 40 := by rw [← hbl]; omega
              have hRo' := hR.cut (lo := oAt bs) (hi := oAt bs + oN bs) (mx := cp) (by omega) (by omega) (by omega) (Nat.le_refl _)
              have hRo : RS c.o 1 (cutA A (oAt bs) cp 1) (oAt bs + oN bs - oAt bs) (cp - oAt bs) ((oBody bs).map .u8) := by rw [oBody, List.map_take, List.map_drop]; simpa using hRo'
              refine C_skip ?_
              refine N_then ?_
              refine C_seq ?_
              refine C_region ?_
              refine W_rd (rd_move rfl) rfl rfl rfl ?_
              refine W_rd (rd_move rfl) rfl rfl rfl ?_
              refine W_rd (rd_move rfl) rfl rfl rfl ?_
              refine W_rd (rd_move rfl) rfl rfl rfl ?_
              first | refine W_rd (rd_iaddN rfl rfl (by omega)) rfl rfl rfl ?_
              first | refine W_rd (rd_cut sl27 rfl rfl rfl (by omega)) rfl rfl rfl ?_
              refine W_op rfl (op_call (indexTake_n (cutA A (oAt bs) cp 1) (cp - oAt bs) (oBody bs) hob hbl) Tryz.func113 rfl rfl rfl (pickR_spec (is := []) rfl) (fun o hle _ => hRo.mono hle) rfl ?_)
              rintro xt75 Ht75 (⟨h0, A2, c2, rfl, rfl⟩ | ⟨h0, rfl, rfl⟩)
              ·
                obtain ⟨hn, hall⟩ := indexChk_ok (indexTake_chk h0)
                refine W_rd (rd_move rfl) rfl rfl rfl ?_
                refine W_rd (rd_extract rfl rfl) rfl rfl rfl ?_
                refine W_rd (rd_extract rfl rfl) rfl rfl rfl ?_
                refine W_rd (rd_assign rfl) rfl rfl rfl ?_
                refine W_rd (rd_assign rfl) rfl rfl rfl ?_
                refine W_nil ?_
                refine N_then ?_
                refine C_seq ?_
                refine C_seq ?_
                refine C_region ?_
                refine W_rd (rd_move rfl) rfl rfl rfl ?_
                refine W_rd (rd_bin rfl rfl rfl) rfl rfl rfl ?_
                refine W_nil ?_
                refine N_then ?_
                refine C_cond rfl (fun h => by first | (cases h; done) | (simp at h; done) | (simp at h; omega)) (fun ht79 => ?_)
                refine C_skip ?_
                refine N_then ?_
                refine C_seq ?_
                refine C_seq ?_
                refine C_region ?_
                refine W_rd (rd_move rfl) rfl rfl rfl ?_
                refine W_rd (rd_len sl170.und rfl) rfl rfl rfl ?_
                refine W_rd (rd_fieldAddr fa71_0 rfl) rfl rfl rfl ?_
                first | refine W_op rfl (op_load 0 rfl rfl sc3 rfl rfl ?_) | refine W_op rfl (op_load 1 rfl rfl sc3 rfl rfl ?_) | refine W_op rfl (op_load 2 rfl rfl sc3 rfl rfl ?_) | refine W_op rfl (op_load 3 rfl rfl sc3 rfl rfl ?_) | refine W_op rfl (op_load 4 rfl rfl sc3 rfl rfl ?_) | refine W_op rfl (op_load 5 rfl rfl sc3 rfl rfl ?_) | refine W_op rfl (op_load 6 rfl rfl sc3 rfl rfl ?_) | refine W_op rfl (op_load 7 rfl rfl sc3 rfl rfl ?_)
                refine W_rd (rd_bin rfl rfl rfl) rfl rfl rfl ?_
                refine W_nil ?_
                refine N_then ?_
                refine C_cond rfl (fun ht85 => ?_) (fun ht85 => ?_)
                ·
                  refine C_seq ?_
                  refine C_region ?_
                  refine W_rd (rd_assign rfl) rfl rfl rfl ?_
                  refine W_rd (rd_assign rfl) rfl rfl rfl ?_
                  refine W_nil ?_
                  refine N_then ?_
                  refine C_ret ?_
                  repeat (first | refine Rt_then ?_ | refine Rt_block ?_)
                  have hz : openR bs a b = (7, []) := by rw [openR, if_neg h1, if_neg (by omega), if_neg (by simp [h3]), if_neg (by simp [h4]), if_neg (by simp [h5]), openEnd]; (try dsimp only); rw [if_neg (by simp [h0]), if_pos (of_decide_eq_true ht85)]
                  exact Ret2 [] rfl rfl rfl rfl rfl (.inr ⟨by rw [hz]; first | decide | exact h0, by rw [hz], rfl⟩)
                ·
                  have h6 := of_decide_eq_false ht85
                  refine C_skip ?_
                  refine N_then ?_
                  refine C_seq ?_
                  refine C_region ?_
                  refine W_rd (rd_assign rfl) rfl rfl rfl ?_
                  refine W_nil ?_
                  refine N_then ?_
                  refine C_seq ?_
                  refine C_seq ?_
                  refine C_pick [0] rfl ?_
                  refine C_region ?_
                  refine W_rd (rd_move rfl) rfl rfl rfl ?_
                  refine W_rd (rd_len sl170.und rfl) rfl rfl rfl ?_
                  refine W_rd (rd_move rfl) rfl rfl rfl ?_
                  refine W_nil ?_
                  refine N_then ?_
                  refine C_block ?_
                  refine C_loop (γ := OG) (fun g => OGI (indexTake (oBody bs)).2 g) (fun g => [(0, .sl A bs.length cp), (7, .i64 (oAt bs : Int)), (9, .sl A2 (indexTake (oBody bs)).2.length c2), (11, .i64 g.z), (86, .sl A2 (indexTake (oBody bs)).2.length c2), (87, .i64 ((indexTake (oBody bs)).2.length : Int)), (88, .i64 (g.k : Int))]) (fun g => [Row 3 173 A2 (indexTake (oBody bs)).2.length c2 ((indexTake (oBody bs)).2.flatMap Ent.tv)]) (fun g => (indexTake (oBody bs)).2.length - g.k) ⟨0, 6⟩ ?hI1 (subL.spec ⟨rfl, rfl, rfl, rfl, rfl, rfl, rfl, trivial⟩) (List.Perm.refl _) ?_
                  case hI1 => exact OGI.init _
                  rintro g hI1
                  refine C_seq ?_
                  refine C_region ?_
                  refine W_rd (rd_bin rfl rfl rfl) rfl rfl rfl ?_
                  refine W_nil ?_
                  refine N_then ?_
                  refine C_seq ?_
                  refine C_cond rfl (fun ht89 => ?_) (fun ht89 => ?_)
                  ·
                    refine C_skip ?_
                    refine N_then ?_
                    refine C_seq ?_
                    refine C_block ?_
                    refine C_seq ?_
                    have hk : g.k < (indexTake (oBody bs)).2.length := (by simp at ht89; omega)
                    obtain ⟨e, he⟩ : ∃ e, (indexTake (oBody bs)).2[g.k]? = some e := ⟨(indexTake (oBody bs)).2[g.k], by simp [hk]⟩
                    obtain ⟨hb1, hb2, hb3, hb4, hb5, hb6⟩ := hall e (List.mem_of_getElem? he)
                    have hg0 := hI1.b0
                    have hg1 := hI1.b1
                    refine C_region ?_
                    first | refine W_rd (rd_indexN sl170 hRS rfl rfl (by omega)) rfl rfl rfl ?_ | refine W_op rfl (op_indexN 0 sl170 rfl rfl rfl (by omega) rfl ?_) | refine W_op rfl (op_indexN 1 sl170 rfl rfl rfl (by omega) rfl ?_) | refine W_op rfl (op_indexN 2 sl170 rfl rfl rfl (by omega) rfl ?_) | refine W_op rfl (op_indexN 3 sl170 rfl rfl rfl (by omega) rfl ?_)
                    refine W_op rfl (op_loads_el 0 rfl rfl ag173 (flat_get (f := Ent.tv) (fun _ => rfl) he) rfl (by omega) rfl ?_)
                    refine W_op rfl (op_alloc ze173 rfl ?_)
                    intro gt13
                    first | refine W_op rfl (op_sts 0 rfl rfl rfl ag173 rfl rfl rfl rfl ?_) | refine W_op rfl (op_sts 1 rfl rfl rfl ag173 rfl rfl rfl rfl ?_) | refine W_op rfl (op_sts 2 rfl rfl rfl ag173 rfl rfl rfl rfl ?_) | refine W_op rfl (op_sts 3 rfl rfl rfl ag173 rfl rfl rfl rfl ?_) | refine W_op rfl (op_sts 4 rfl rfl rfl ag173 rfl rfl rfl rfl ?_) | refine W_op rfl (op_sts 5 rfl rfl rfl ag173 rfl rfl rfl rfl ?_) | refine W_op rfl (op_sts 6 rfl rfl rfl ag173 rfl rfl rfl rfl ?_) | refine W_op rfl (op_sts 7 rfl rfl rfl ag173 rfl rfl rfl rfl ?_)
                    refine W_nil ?_
                    refine N_then ?_
                    refine C_seq ?_
                    refine C_seq ?_
                    refine C_region ?_
                    refine W_rd (rd_fieldAddr fa173_1 rfl) rfl rfl rfl ?_
                    first | refine W_op rfl (op_load 0 rfl rfl sc3 rfl rfl ?_) | refine W_op rfl (op_load 1 rfl rfl sc3 rfl rfl ?_) | refine W_op rfl (op_load 2 rfl rfl sc3 rfl rfl ?_) | refine W_op rfl (op_load 3 rfl rfl sc3 rfl rfl ?_) | refine W_op rfl (op_load 4 rfl rfl sc3 rfl rfl ?_) | refine W_op rfl (op_load 5 rfl rfl sc3 rfl rfl ?_) | refine W_op rfl (op_load 6 rfl rfl sc3 rfl rfl ?_) | refine W_op rfl (op_load 7 rfl rfl sc3 rfl rfl ?_)
                    refine W_rd (rd_move rfl) rfl rfl rfl ?_
                    refine W_rd (rd_bin rfl rfl rfl) rfl rfl rfl ?_
                    refine W_nil ?_
                    refine N_then ?_
                    refine C_cond rfl (fun ht95 => ?_) (fun ht95 => ?_)
                    ·
                      refine C_seq ?_
                      refine C_region ?_
                      refine W_rd (rd_assign rfl) rfl rfl rfl ?_
                      refine W_rd (rd_assign rfl) rfl rfl rfl ?_
                      refine W_nil ?_
                      refine N_then ?_
                      refine C_ret ?_
                      repeat (first | refine Rt_then ?_ | refine Rt_block ?_)
                      have hze : e.at_ ≠ g.z := by simpa using ht95
                      have hz : openR bs a b = (4, []) := by rw [openR, if_neg h1, if_neg (by omega), if_neg (by simp [h3]), if_neg (by simp [h4]), if_neg (by simp [h5]), openEnd]; (try dsimp only); rw [if_neg (by simp [h0]), if_neg h6, if_pos (by rw [hI1.err he hze]; simp)]
                      exact Ret2 [] rfl rfl rfl rfl rfl (.inr ⟨by rw [hz]; first | decide | exact h0, by rw [hz], rfl⟩)
                    ·
                      refine C_skip ?_
                      refine N_then ?_
                      refine C_region ?_
                      refine W_rd (rd_move rfl) rfl rfl rfl ?_
                      refine W_rd (rd_fieldAddr fa173_2 rfl) rfl rfl rfl ?_
                      first | refine W_op rfl (op_load 0 rfl rfl sc3 rfl rfl ?_) | refine W_op rfl (op_load 1 rfl rfl sc3 rfl rfl ?_) | refine W_op rfl (op_load 2 rfl rfl sc3 rfl rfl ?_) | refine W_op rfl (op_load 3 rfl rfl sc3 rfl rfl ?_) | refine W_op rfl (op_load 4 rfl rfl sc3 rfl rfl ?_) | refine W_op rfl (op_load 5 rfl rfl sc3 rfl rfl ?_) | refine W_op rfl (op_load 6 rfl rfl sc3 rfl rfl ?_) | refine W_op rfl (op_load 7 rfl rfl sc3 rfl rfl ?_)
                      refine W_rd (rd_iadd rfl rfl (by omega)) rfl rfl rfl ?_
                      refine W_rd (rd_assign rfl) rfl rfl rfl ?_
                      refine W_nil ?_
                      refine N_block ?_
                      refine N_then ?_
                      refine C_region ?_
                      refine W_rd (rd_iadd rfl rfl (by omega)) rfl rfl rfl ?_
                      refine W_rd (rd_move rfl) rfl rfl rfl ?_
                      refine W_nil ?_
                      have hze : e.at_ = g.z := by simpa using ht95
                      refine N_pick [1] rfl (N_round ⟨g.k + 1, g.z + e.sz⟩ (hI1.step he hze hb5 hb6) (by simp only []; omega) (subL.spec ⟨rfl, rfl, rfl, rfl, rfl, rfl, rfl, trivial⟩) (List.Perm.refl _))
                  ·
                    have hkl : g.k = (indexTake (oBody bs)).2.length := (by have := hI1.le; simp at ht89; omega)
                    have hch := hI1.end_ hkl
                    refine C_exit ?_
                    repeat (first | refine X_then ?_ | refine X_here ?_ | refine X_block rfl ?_)
                    refine N_then ?_
                    refine C_seq ?_
                    refine C_seq ?_
                    refine C_region ?_
                    refine W_rd (rd_move rfl) rfl rfl rfl ?_
                    refine W_rd (rd_move rfl) rfl rfl rfl ?_
                    refine W_rd (rd_bin rfl rfl rfl) rfl rfl rfl ?_
                    refine W_nil ?_
                    refine N_then ?_
                    refine C_cond rfl (fun ht103 => ?_) (fun ht103 => ?_)
                    ·
                      refine C_seq ?_
                      refine C_region ?_
                      refine W_rd (rd_assign rfl) rfl rfl rfl ?_
                      refine W_rd (rd_assign rfl) rfl rfl rfl ?_
                      refine W_nil ?_
                      refine N_then ?_
                      refine C_ret ?_
                      repeat (first | refine Rt_then ?_ | refine Rt_block ?_)
                      have hze : g.z ≠ (oAt bs : Int) := by simpa using ht103
                      have hz : openR bs a b = (4, []) := by rw [openR, if_neg h1, if_neg (by omega), if_neg (by simp [h3]), if_neg (by simp [h4]), if_neg (by simp [h5]), openEnd]; (try dsimp only); rw [if_neg (by simp [h0]), if_neg h6, if_pos (by rw [hch]; simpa using hze)]
                      exact Ret2 [] rfl rfl rfl rfl rfl (.inr ⟨by rw [hz]; first | decide | exact h0, by rw [hz], rfl⟩)
                    ·
                      refine C_skip ?_
                      refine N_then ?_
                      refine C_seq ?_
                      refine C_region ?_
                      refine W_op rfl (op_slice sl27 ze5 rfl rfl rfl rfl rfl rfl (by omega) rfl ?_)
                      intro At104 hAt104
                      refine W_rd (rd_move rfl) rfl rfl rfl ?_
                      refine W_op rfl (op_append 0 sl27 rfl rfl rfl (Src.ofRS hR) (one_u8 _) (by omega) rfl ?_)
                      intro At106 ct106 Ht106 hHt106; obtain rfl := Option.some.inj hHt106
                      refine W_rd (rd_move rfl) rfl rfl rfl ?_
                      refine W_rd (rd_build la178 rfl rfl rfl) rfl rfl rfl ?_
                      refine W_op rfl (op_box rfl (by first | exact .inl rfl | exact .inr ⟨_, rfl⟩) rfl ?_)
                      intro gt109
                      refine W_rd (rd_assign rfl) rfl rfl rfl ?_
                      refine W_rd (rd_assign rfl) rfl rfl rfl ?_
                      refine W_nil ?_
                      refine N_then ?_
                      refine C_ret ?_
                      repeat (first | refine Rt_then ?_ | refine Rt_block ?_)
                      have hze : g.z = (oAt bs : Int) := by simpa using ht103
                      have hz : openR bs a b = (0, (indexTake (oBody bs)).2) := by rw [openR, if_neg h1, if_neg (by omega), if_neg (by simp [h3]), if_neg (by simp [h4]), if_neg (by simp [h5]), openEnd]; (try dsimp only); rw [if_neg (by simp [h0]), if_neg h6, if_neg (by rw [hch]; simp [hze])]
                      exact Ret2 [0, 0, 0] rfl rfl rfl rfl rfl (.inl ⟨by rw [hz], gt109, At106, ct106, A2, c2, rfl, by rw [hz]; simp; rfl⟩)
              ·
                refine W_rd (rd_move rfl) rfl rfl rfl ?_
                refine W_rd (rd_extract rfl rfl) rfl rfl rfl ?_
                refine W_rd (rd_extract rfl rfl) rfl rfl rfl ?_
                refine W_rd (rd_assign rfl) rfl rfl rfl ?_
                refine W_rd (rd_assign rfl) rfl rfl rfl ?_
                refine W_nil ?_
                refine N_then ?_
                refine C_seq ?_
                refine C_seq ?_
                refine C_region ?_
                refine W_rd (rd_move rfl) rfl rfl rfl ?_
                refine W_rd (rd_bin rfl rfl rfl) rfl rfl rfl ?_
                refine W_nil ?_
                refine N_then ?_
                refine C_cond rfl (fun ht79 => ?_) (fun h => by first | (cases h; done) | (simp at h; done) | (simp at h; omega))
                refine C_seq ?_
                refine C_region ?_
                refine W_rd (rd_move rfl) rfl rfl rfl ?_
                refine W_rd (rd_assign rfl) rfl rfl rfl ?_
                refine W_rd (rd_assign rfl) rfl rfl rfl ?_
                refine W_nil ?_
                refine N_then ?_
                refine C_ret ?_
                repeat (first | refine Rt_then ?_ | refine Rt_block ?_)
                have hz : openR bs a b = ((indexTake (oBody bs)).1, []) := by rw [openR, if_neg h1, if_neg (by omega), if_neg (by simp [h3]), if_neg (by simp [h4]), if_neg (by simp [h5]), openEnd]; (try dsimp only); rw [if_pos h0]
                exact Ret2 [] rfl rfl rfl rfl rfl (.inr ⟨by rw [hz]; first | decide | exact h0, by rw [hz], rfl⟩)
end Go.Hb.Wk9
