/- A part of the proofs of this seat: rules of a logic of owned and of lent memory, what functions compute, or their walks. -/
import Derived.Test.YtclediplagkblaaGreatCore12
import Derived.Test.YtclediplagkblaaGreatProg
import Derived.Test.YtclediplagkblaaGreatSp9
import Derived.Test.YtclediplagkblaaGreatWk10
set_option linter.unusedVariables false
set_option linter.unusedSimpArgs false
namespace Go.Hb.Wk11
open Go Go.Proofs
open Go.Hb.Wk1 Go.Hb.Wk2 Go.Hb.Wk3 Go.Hb.Wk4 Go.Hb.Wk5 Go.Hb.Wk6 Go.Hb.Wk7 Go.Hb.Wk8 Go.Hb.Wk9 Go.Hb.Wk10
theorem ze67 : Zero Tryz.prog 67 ([.str [], .u8 0, .sl none 0 0]) := Zero.ofK (by kernel_rfl)
theorem ag67 : Aggr Tryz.prog 67 3 := ⟨fun _ => by kernel_rfl, fun _ => by kernel_rfl⟩
theorem fa65_0 : FA Tryz.prog 65 0 0 := fun _ _ => by kernel_rfl
theorem fa65_1 : FA Tryz.prog 65 1 1 := fun _ _ => by kernel_rfl
theorem fa65_2 : FA Tryz.prog 65 2 2 := fun _ _ => by kernel_rfl
theorem fa67_0 : FA Tryz.prog 67 0 0 := fun _ _ => by kernel_rfl
theorem la67 : Lay Tryz.prog 67 ([.str [], .u8 0, .sl none 0 0]) [(0, 1), (1, 1), (2, 1)] := Lay.ofK ze67 (by kernel_rfl)
theorem sc27 : Scal Tryz.prog 27 := ⟨fun _ => by kernel_rfl, fun _ => by kernel_rfl⟩
theorem sc5 : Scal Tryz.prog 5 := ⟨fun _ => by kernel_rfl, fun _ => by kernel_rfl⟩
theorem sc9 : Scal Tryz.prog 9 := ⟨fun _ => by kernel_rfl, fun _ => by kernel_rfl⟩
theorem sl27 : SlT Tryz.prog 27 5 1 1 := SlT.ofB (by kernel_rfl) rfl
theorem sl80 : SlT Tryz.prog 80 9 1 16 := SlT.ofB (by kernel_rfl) rfl
theorem un27 : Tryz.prog.underlying 27 = some (.slice 5) := by kernel_rfl
theorem un5 : Tryz.prog.underlying 5 = some (.int .u8) := by kernel_rfl
theorem un73 : Tryz.prog.underlying 73 = some (.pointer 178) := by kernel_rfl
theorem un9 : Tryz.prog.underlying 9 = some (.string) := by kernel_rfl
theorem awake_c  :
    Tr Tryz.prog 27 [] (fun o => True) ([]) (fun x H' => x = .b true ∧ H' = []) := by
  refine Tr_intro Tryz.func27 rfl rfl (fun c hR => ?_)
  refine C_seq ?_
  refine C_region ?_
  refine W_rd (rd_assign rfl) rfl rfl rfl ?_
  refine W_nil ?_
  refine N_then ?_
  refine C_seq ?_
  refine C_region ?_
  refine W_op rfl (op_call (most_c) Tryz.func30 rfl rfl rfl (pickR_spec (is := []) rfl) (fun _ _ _ => trivial) rfl ?_)
  rintro xt6 Ht6 ⟨rfl, rfl⟩
  refine W_op rfl (op_call (build0_c) Tryz.func38 rfl rfl rfl (pickR_spec (is := []) rfl) (fun _ _ _ => trivial) rfl ?_)
  rintro xt7 Ht7 ⟨A1, c1, rfl, rfl⟩
  refine W_rd (rd_move rfl) rfl rfl rfl ?_
  refine W_rd (rd_extract rfl rfl) rfl rfl rfl ?_
  refine W_rd (rd_extract rfl rfl) rfl rfl rfl ?_
  refine W_rd (rd_assign rfl) rfl rfl rfl ?_
  refine W_rd (rd_assign rfl) rfl rfl rfl ?_
  refine W_nil ?_
  refine N_then ?_
  refine C_seq ?_
  refine C_region ?_
  refine W_rd (rd_move rfl) rfl rfl rfl ?_
  refine W_op rfl (op_call (most_c) Tryz.func30 rfl rfl rfl (pickR_spec (is := []) rfl) (fun _ _ _ => trivial) rfl ?_)
  rintro xt12 Ht12 ⟨rfl, rfl⟩
  refine W_op rfl (op_call (open_c A1 c1 B23 1000 1048576) Tryz.func39 rfl rfl rfl (pickR_spec (is := []) rfl) (fun o hle hsub => hsub.row 0 rfl) rfl ?_)
  rw [open23]
  rintro xt13 Ht13 h
  rcases h with ⟨h0, gb, A3, c3, A2, c2, rfl, rfl⟩ | ⟨h0, _⟩
  rotate_left
  · exact absurd rfl h0
  refine W_rd (rd_move rfl) rfl rfl rfl ?_
  refine W_rd (rd_extract rfl rfl) rfl rfl rfl ?_
  refine W_rd (rd_extract rfl rfl) rfl rfl rfl ?_
  refine W_rd (rd_assign rfl) rfl rfl rfl ?_
  refine W_rd (rd_assign rfl) rfl rfl rfl ?_
  refine W_nil ?_
  refine N_then ?_
  refine C_seq ?_
  refine C_region ?_
  refine W_rd (rd_move rfl) rfl rfl rfl ?_
  refine W_rd (rd_bin rfl rfl rfl) rfl rfl rfl ?_
  refine W_rd (rd_move rfl) rfl rfl rfl ?_
  refine W_split (dd := 18) rfl (fun ht18 => ?_) (fun h => by first | (cases h; done) | (simp at h; done) | (simp at h; omega) | (rw [B23_len] at h; cases h; done))
  ·
    refine W_gt rfl rfl rfl (op_rd (rd_move rfl) rfl rfl ?_)
    refine W_gt rfl rfl rfl (op_rd (rd_len sl27.und rfl) rfl rfl ?_)
    refine W_gt rfl rfl rfl (op_rd (rd_bin rfl rfl rfl) rfl rfl ?_)
    refine W_rd (rd_pick rfl rfl) rfl rfl rfl ?_
    refine W_rd (rd_move rfl) rfl rfl rfl ?_
    refine W_split (dd := 23) rfl (fun ht23 => ?_) (fun h => by first | (cases h; done) | (simp at h; done) | (simp at h; omega) | (rw [B23_len] at h; cases h; done))
    ·
      refine W_gt rfl rfl rfl (op_rd (rd_move rfl) rfl rfl ?_)
      refine W_gt rfl rfl rfl (op_rd (rd_bin rfl rfl rfl) rfl rfl ?_)
      refine W_rd (rd_pick rfl rfl) rfl rfl rfl ?_
      refine W_rd (rd_move rfl) rfl rfl rfl ?_
      refine W_split (dd := 27) rfl (fun ht27 => ?_) (fun h => by first | (cases h; done) | (simp at h; done) | (simp at h; omega) | (rw [B23_len] at h; cases h; done))
      ·
        refine W_gt rfl rfl rfl (op_rd (rd_move rfl) rfl rfl ?_)
        refine W_gt rfl rfl rfl (op_call (names_c gb A3 A2 B23.length c3 c2 [] (by decide)) Tryz.func34 rfl rfl rfl (pickR_spec (is := [0]) rfl) (fun o hle hsub => hsub.row 1 rfl) rfl ?_)
        rintro xt29 Ht29 ⟨A4, c4, rfl, rfl⟩
        refine W_gt rfl rfl rfl (op_rd (rd_len sl80.und rfl) rfl rfl ?_)
        refine W_gt rfl rfl rfl (op_rd (rd_bin rfl rfl rfl) rfl rfl ?_)
        refine W_rd (rd_pick rfl rfl) rfl rfl rfl ?_
        refine W_rd (rd_assign rfl) rfl rfl rfl ?_
        refine W_nil ?_
        refine N_then ?_
        refine C_ret ?_
        repeat (first | refine Rt_then ?_ | refine Rt_block ?_)
        exact Ret1 [] rfl rfl rfl rfl ⟨rfl, rfl⟩
theorem smFrame_c (s : Sm) (hn : s.nm.length ≤ 50) :
    Tr Tryz.prog 28 [.agg s.tv] (fun o => s.ok o) ([]) (fun x H' => x = .agg s.frm.tv ∧ H' = []) := by
  refine Tr_intro Tryz.func28 rfl rfl (fun c hR => ?_)
  have hRS := hR.1
  refine C_seq ?_
  refine C_region ?_
  refine W_op rfl (op_box rfl (by first | exact .inl rfl | exact .inr ⟨_, rfl⟩) rfl ?_)
  intro gt1
  refine W_op rfl (op_alloc ze67 rfl ?_)
  intro gt2
  refine W_nil ?_
  refine N_then ?_
  refine C_seq ?_
  refine C_region ?_
  refine W_rd (rd_fieldAddr fa65_0 rfl) rfl rfl rfl ?_
  first | refine W_op rfl (op_load 0 rfl rfl sc27 rfl rfl ?_) | refine W_op rfl (op_load 1 rfl rfl sc27 rfl rfl ?_) | refine W_op rfl (op_load 2 rfl rfl sc27 rfl rfl ?_) | refine W_op rfl (op_load 3 rfl rfl sc27 rfl rfl ?_) | refine W_op rfl (op_load 4 rfl rfl sc27 rfl rfl ?_) | refine W_op rfl (op_load 5 rfl rfl sc27 rfl rfl ?_) | refine W_op rfl (op_load 6 rfl rfl sc27 rfl rfl ?_) | refine W_op rfl (op_load 7 rfl rfl sc27 rfl rfl ?_)
  refine W_rd (rd_bytes_str un27 un5 un9 hRS rfl) rfl rfl rfl ?_
  first | refine W_rd (rd_cat rfl rfl (by simp; omega)) rfl rfl rfl ?_
  refine W_rd (rd_fieldAddr fa65_1 rfl) rfl rfl rfl ?_
  first | refine W_op rfl (op_load 0 rfl rfl sc5 rfl rfl ?_) | refine W_op rfl (op_load 1 rfl rfl sc5 rfl rfl ?_) | refine W_op rfl (op_load 2 rfl rfl sc5 rfl rfl ?_) | refine W_op rfl (op_load 3 rfl rfl sc5 rfl rfl ?_) | refine W_op rfl (op_load 4 rfl rfl sc5 rfl rfl ?_) | refine W_op rfl (op_load 5 rfl rfl sc5 rfl rfl ?_) | refine W_op rfl (op_load 6 rfl rfl sc5 rfl rfl ?_) | refine W_op rfl (op_load 7 rfl rfl sc5 rfl rfl ?_)
  refine W_rd (rd_div8 rfl rfl (.inr ⟨rfl, rfl⟩) (by decide)) rfl rfl rfl ?_
  refine W_rd (rd_fieldAddr fa65_2 rfl) rfl rfl rfl ?_
  first | refine W_op rfl (op_load 0 rfl rfl sc27 rfl rfl ?_) | refine W_op rfl (op_load 1 rfl rfl sc27 rfl rfl ?_) | refine W_op rfl (op_load 2 rfl rfl sc27 rfl rfl ?_) | refine W_op rfl (op_load 3 rfl rfl sc27 rfl rfl ?_) | refine W_op rfl (op_load 4 rfl rfl sc27 rfl rfl ?_) | refine W_op rfl (op_load 5 rfl rfl sc27 rfl rfl ?_) | refine W_op rfl (op_load 6 rfl rfl sc27 rfl rfl ?_) | refine W_op rfl (op_load 7 rfl rfl sc27 rfl rfl ?_)
  refine W_rd (rd_build la67 rfl rfl rfl) rfl rfl rfl ?_
  refine W_op rfl (op_alloc ze67 rfl ?_)
  intro gt3
  first | refine W_op rfl (op_sts 0 rfl rfl rfl ag67 rfl rfl rfl rfl ?_) | refine W_op rfl (op_sts 1 rfl rfl rfl ag67 rfl rfl rfl rfl ?_) | refine W_op rfl (op_sts 2 rfl rfl rfl ag67 rfl rfl rfl rfl ?_) | refine W_op rfl (op_sts 3 rfl rfl rfl ag67 rfl rfl rfl rfl ?_) | refine W_op rfl (op_sts 4 rfl rfl rfl ag67 rfl rfl rfl rfl ?_) | refine W_op rfl (op_sts 5 rfl rfl rfl ag67 rfl rfl rfl rfl ?_) | refine W_op rfl (op_sts 6 rfl rfl rfl ag67 rfl rfl rfl rfl ?_) | refine W_op rfl (op_sts 7 rfl rfl rfl ag67 rfl rfl rfl rfl ?_)
  refine W_nil ?_
  refine N_then ?_
  refine C_seq ?_
  refine C_seq ?_
  refine C_region ?_
  refine W_rd (rd_fieldAddr fa67_0 rfl) rfl rfl rfl ?_
  first | refine W_op rfl (op_load 0 rfl rfl sc9 rfl rfl ?_) | refine W_op rfl (op_load 1 rfl rfl sc9 rfl rfl ?_) | refine W_op rfl (op_load 2 rfl rfl sc9 rfl rfl ?_) | refine W_op rfl (op_load 3 rfl rfl sc9 rfl rfl ?_) | refine W_op rfl (op_load 4 rfl rfl sc9 rfl rfl ?_) | refine W_op rfl (op_load 5 rfl rfl sc9 rfl rfl ?_) | refine W_op rfl (op_load 6 rfl rfl sc9 rfl rfl ?_) | refine W_op rfl (op_load 7 rfl rfl sc9 rfl rfl ?_)
  refine W_rd (rd_slen un9 rfl) rfl rfl rfl ?_
  refine W_rd (rd_bin rfl rfl rfl) rfl rfl rfl ?_
  refine W_nil ?_
  refine N_then ?_
  refine C_cond rfl (fun h => by first | (cases h; done) | (simp at h; done) | (simp at h; omega)) (fun ht17 => ?_)
  refine C_skip ?_
  refine N_then ?_
  refine C_seq ?_
  refine C_region ?_
  first | refine W_op rfl (op_loads 0 rfl rfl ag67 rfl rfl rfl ?_) | refine W_op rfl (op_loads 1 rfl rfl ag67 rfl rfl rfl ?_) | refine W_op rfl (op_loads 2 rfl rfl ag67 rfl rfl rfl ?_) | refine W_op rfl (op_loads 3 rfl rfl ag67 rfl rfl rfl ?_) | refine W_op rfl (op_loads 4 rfl rfl ag67 rfl rfl rfl ?_) | refine W_op rfl (op_loads 5 rfl rfl ag67 rfl rfl rfl ?_) | refine W_op rfl (op_loads 6 rfl rfl ag67 rfl rfl rfl ?_) | refine W_op rfl (op_loads 7 rfl rfl ag67 rfl rfl rfl ?_)
  first | refine W_op rfl (op_sts 0 rfl rfl rfl ag67 rfl rfl rfl rfl ?_) | refine W_op rfl (op_sts 1 rfl rfl rfl ag67 rfl rfl rfl rfl ?_) | refine W_op rfl (op_sts 2 rfl rfl rfl ag67 rfl rfl rfl rfl ?_) | refine W_op rfl (op_sts 3 rfl rfl rfl ag67 rfl rfl rfl rfl ?_) | refine W_op rfl (op_sts 4 rfl rfl rfl ag67 rfl rfl rfl rfl ?_) | refine W_op rfl (op_sts 5 rfl rfl rfl ag67 rfl rfl rfl rfl ?_) | refine W_op rfl (op_sts 6 rfl rfl rfl ag67 rfl rfl rfl rfl ?_) | refine W_op rfl (op_sts 7 rfl rfl rfl ag67 rfl rfl rfl rfl ?_)
  refine W_nil ?_
  refine N_then ?_
  refine C_ret ?_
  repeat (first | refine Rt_then ?_ | refine Rt_block ?_)
  exact RetC [] 1 rfl rfl rfl ag67 rfl rfl rfl rfl ⟨rfl, rfl⟩
theorem namesNil_c  :
    Tr Tryz.prog 34 [.nilp] (fun o => True) ([]) (fun x H' => x = .sl none 0 0 ∧ H' = []) := by
  refine Tr_intro Tryz.func34 rfl rfl (fun c hR => ?_)
  refine C_seq ?_
  refine C_region ?_
  refine W_rd (rd_assign rfl) rfl rfl rfl ?_
  refine W_nil ?_
  refine N_then ?_
  refine C_seq ?_
  refine C_region ?_
  refine W_rd (rd_assign rfl) rfl rfl rfl ?_
  refine W_nil ?_
  refine N_then ?_
  refine C_seq ?_
  refine C_seq ?_
  refine C_region ?_
  refine W_rd (rd_move rfl) rfl rfl rfl ?_
  first | refine W_rd (rd_ptr_ne rfl rfl un73) rfl rfl rfl ?_ | refine W_rd (rd_nil_ne rfl rfl un73) rfl rfl rfl ?_
  refine W_nil ?_
  refine N_then ?_
  refine C_cond rfl (fun h => by first | (cases h; done) | (simp at h; done) | (simp at h; omega)) (fun ht7 => ?_)
  refine C_skip ?_
  refine N_then ?_
  refine C_seq ?_
  refine C_region ?_
  refine W_rd (rd_move rfl) rfl rfl rfl ?_
  refine W_rd (rd_assign rfl) rfl rfl rfl ?_
  refine W_nil ?_
  refine N_then ?_
  refine C_ret ?_
  repeat (first | refine Rt_then ?_ | refine Rt_block ?_)
  exact Ret1 [] rfl rfl rfl rfl ⟨rfl, rfl⟩
end Go.Hb.Wk11
