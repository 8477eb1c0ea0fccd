/- A part of the proofs of this seat: rules of a logic of owned and of lent memory, what functions compute, or their walks. -/
import Derived.Test.YtclediplagkblaaGreatCore12
import Derived.Test.YtclediplagkblaaGreatProg
import Derived.Test.YtclediplagkblaaGreatSp10
import Derived.Test.YtclediplagkblaaGreatWk11
set_option linter.unusedVariables false
set_option linter.unusedSimpArgs false
namespace Go.Hb.Wk12
open Go Go.Proofs
open Go.Hb.Wk1 Go.Hb.Wk2 Go.Hb.Wk3 Go.Hb.Wk4 Go.Hb.Wk5 Go.Hb.Wk6 Go.Hb.Wk7 Go.Hb.Wk8 Go.Hb.Wk9 Go.Hb.Wk10 Go.Hb.Wk11
theorem ze47 : Zero Tryz.prog 47 ([.u8 0, .sl none 0 0, .i64 0, .sl none 0 0, .i64 0, .sl none 0 0, .i64 0, .i64 0, .sl none 0 0, .i64 0, .i64 0, .sl none 0 0, .i64 0, .u32 0, .u32 0, .u32 0, .u32 0, .u32 0, .u32 0, .u32 0, .f 0, .f 0, .sl none 0 0]) := Zero.ofK (by kernel_rfl)
theorem ze65 : Zero Tryz.prog 65 ([.sl none 0 0, .u8 0, .sl none 0 0]) := Zero.ofK (by kernel_rfl)
theorem ze67 : Zero Tryz.prog 67 ([.str [], .u8 0, .sl none 0 0]) := Zero.ofK (by kernel_rfl)
theorem ag47 : Aggr Tryz.prog 47 23 := ⟨fun _ => by kernel_rfl, fun _ => by kernel_rfl⟩
theorem ag65 : Aggr Tryz.prog 65 3 := ⟨fun _ => by kernel_rfl, fun _ => by kernel_rfl⟩
theorem ag67 : Aggr Tryz.prog 67 3 := ⟨fun _ => by kernel_rfl, fun _ => by kernel_rfl⟩
theorem fa65_0 : FA Tryz.prog 65 0 0 := fun _ _ => by kernel_rfl
theorem fa65_2 : FA Tryz.prog 65 2 2 := fun _ _ => by kernel_rfl
theorem fa67_0 : FA Tryz.prog 67 0 0 := fun _ _ => by kernel_rfl
theorem sc27 : Scal Tryz.prog 27 := ⟨fun _ => by kernel_rfl, fun _ => by kernel_rfl⟩
theorem sc9 : Scal Tryz.prog 9 := ⟨fun _ => by kernel_rfl, fun _ => by kernel_rfl⟩
theorem sl27 : SlT Tryz.prog 27 5 1 1 := SlT.ofB (by kernel_rfl) rfl
theorem sl62 : SlT Tryz.prog 62 65 3 56 := SlT.ofB (by kernel_rfl) rfl
theorem sl63 : SlT Tryz.prog 63 67 3 48 := SlT.ofB (by kernel_rfl) rfl
theorem sl80 : SlT Tryz.prog 80 9 1 16 := SlT.ofB (by kernel_rfl) rfl
theorem un4 : Tryz.prog.underlying 4 = some (.bool) := by kernel_rfl
set_option maxHeartbeats 2000000 in
theorem boxClose_c (A : Option Addr) (cp : Nat) (l : List Sm) (nm : List UInt8) :
    Tr Tryz.prog 4 [.sl A l.length cp, .str nm] (fun o => RS o 3 A l.length cp (l.flatMap Sm.tv) ∧ ∀ s ∈ l, s.ok o) ([]) (fun x H' => x = .b true ∧ H' = []) := by
  refine Tr_intro Tryz.func4 rfl rfl (fun c hR => ?_)
  obtain ⟨hR, hP⟩ := hR
  have h63 := hR.le63
  refine C_seq ?_
  refine C_region ?_
  refine W_rd (rd_assign rfl) rfl rfl rfl ?_
  refine W_nil ?_
  refine N_then ?_
  refine C_seq ?_
  refine C_seq ?_
  refine C_region ?_
  refine W_op rfl (op_call (awake_c) Tryz.func27 rfl rfl rfl (pickR_spec (is := []) rfl) (fun _ _ _ => trivial) rfl ?_)
  rintro xt18 Ht18 ⟨rfl, rfl⟩
  refine W_rd (rd_un rfl rfl) rfl rfl rfl ?_
  refine W_nil ?_
  refine N_then ?_
  refine C_cond rfl (fun h => by first | (cases h; done) | (simp at h; done) | (simp at h; omega) | (simp [hrise] at h; done)) (fun ht19 => ?_)
  refine C_skip ?_
  refine N_then ?_
  refine C_seq ?_
  refine C_seq ?_
  refine C_region ?_
  refine W_rd (rd_move rfl) rfl rfl rfl ?_
  refine W_rd (rd_len sl62.und rfl) rfl rfl rfl ?_
  refine W_rd (rd_bin rfl rfl rfl) rfl rfl rfl ?_
  refine W_nil ?_
  refine N_then ?_
  refine C_cond rfl (fun ht22 => ?_) (fun ht22 => ?_)
  ·
    refine C_seq ?_
    refine C_region ?_
    refine W_rd (rd_assign rfl) rfl rfl rfl ?_
    refine W_nil ?_
    refine N_then ?_
    refine C_ret ?_
    repeat (first | refine Rt_then ?_ | refine Rt_block ?_)
    exact Ret1 [] rfl rfl rfl rfl ⟨rfl, rfl⟩
  ·
    have hl10 : l.length ≤ 10 := (by simp at ht22; omega)
    refine C_skip ?_
    refine N_then ?_
    refine C_seq ?_
    refine C_region ?_
    refine W_rd (rd_assign rfl) rfl rfl rfl ?_
    refine W_nil ?_
    refine N_then ?_
    refine C_seq ?_
    refine C_region ?_
    refine W_rd (rd_assign rfl) rfl rfl rfl ?_
    refine W_nil ?_
    refine N_then ?_
    refine C_seq ?_
    refine C_seq ?_
    refine C_nil_row 3 67 ?_
    refine C_region ?_
    refine W_rd (rd_move rfl) rfl rfl rfl ?_
    refine W_rd (rd_len sl62.und rfl) rfl rfl rfl ?_
    refine W_rd (rd_move rfl) rfl rfl rfl ?_
    refine W_nil ?_
    refine N_then ?_
    refine C_block ?_
    refine C_loop (γ := Nat × Option Addr × Nat) (fun q => q.1 ≤ l.length ∧ ∀ s ∈ l.take q.1, s.nm.length ≤ 50 ∧ s.pl.length ≤ 50) (fun q => [(0, .sl A l.length cp), (1, .str nm), (5, .sl q.2.1 q.1 q.2.2), (6, .b (rises (l.map Sm.frm) q.1)), (23, .sl A l.length cp), (24, .i64 (l.length : Int)), (25, .i64 (q.1 : Int))]) (fun q => [Row 3 67 q.2.1 q.1 q.2.2 (smF l q.1)]) (fun q => l.length - q.1) (0, none, 0) ?hI0 (subL.spec ⟨rfl, rfl, rfl, rfl, rfl, rfl, rfl, trivial⟩) (List.Perm.refl _) ?_
    case hI0 => exact ⟨Nat.zero_le _, fun s h => by simp at h⟩
    rintro q hI0
    refine C_seq ?_
    refine C_region ?_
    refine W_rd (rd_bin rfl rfl rfl) rfl rfl rfl ?_
    refine W_nil ?_
    refine N_then ?_
    refine C_seq ?_
    refine C_cond rfl (fun ht26 => ?_) (fun ht26 => ?_)
    ·
      refine C_skip ?_
      refine N_then ?_
      refine C_seq ?_
      refine C_block ?_
      refine C_seq ?_
      obtain ⟨k, A', cp'⟩ := q
      obtain ⟨hk0, hall⟩ := hI0
      simp only [] at hk0 hall ht26
      have hk : k < l.length := (by simp at ht26; omega)
      obtain ⟨s, he⟩ : ∃ e, l[k]? = some e := ⟨l[k], by simp [hk]⟩
      refine C_region ?_
      refine W_rd (rd_move rfl) rfl rfl rfl ?_
      refine W_rd (rd_indexN sl62 hR rfl rfl (by omega)) rfl rfl rfl ?_
      refine W_rd (rd_loads_el hR rfl ag65 (flat_get (f := Sm.tv) (fun _ => rfl) he) rfl (by omega)) rfl rfl rfl ?_
      refine W_op rfl (op_alloc ze65 rfl ?_)
      intro gt8
      refine W_rd (rd_assign rfl) rfl rfl rfl ?_
      first | refine W_op rfl (op_sts 0 rfl rfl rfl ag65 rfl rfl rfl rfl ?_) | refine W_op rfl (op_sts 1 rfl rfl rfl ag65 rfl rfl rfl rfl ?_) | refine W_op rfl (op_sts 2 rfl rfl rfl ag65 rfl rfl rfl rfl ?_) | refine W_op rfl (op_sts 3 rfl rfl rfl ag65 rfl rfl rfl rfl ?_) | refine W_op rfl (op_sts 4 rfl rfl rfl ag65 rfl rfl rfl rfl ?_) | refine W_op rfl (op_sts 5 rfl rfl rfl ag65 rfl rfl rfl rfl ?_) | refine W_op rfl (op_sts 6 rfl rfl rfl ag65 rfl rfl rfl rfl ?_) | refine W_op rfl (op_sts 7 rfl rfl rfl ag65 rfl rfl rfl rfl ?_)
      refine W_nil ?_
      refine N_then ?_
      refine C_seq ?_
      refine C_seq ?_
      refine C_region ?_
      refine W_rd (rd_fieldAddr fa65_0 rfl) rfl rfl rfl ?_
      first | refine W_op rfl (op_load 0 rfl rfl sc27 rfl rfl ?_) | refine W_op rfl (op_load 1 rfl rfl sc27 rfl rfl ?_) | refine W_op rfl (op_load 2 rfl rfl sc27 rfl rfl ?_) | refine W_op rfl (op_load 3 rfl rfl sc27 rfl rfl ?_) | refine W_op rfl (op_load 4 rfl rfl sc27 rfl rfl ?_) | refine W_op rfl (op_load 5 rfl rfl sc27 rfl rfl ?_) | refine W_op rfl (op_load 6 rfl rfl sc27 rfl rfl ?_) | refine W_op rfl (op_load 7 rfl rfl sc27 rfl rfl ?_)
      refine W_rd (rd_len sl27.und rfl) rfl rfl rfl ?_
      refine W_rd (rd_bin rfl rfl rfl) rfl rfl rfl ?_
      refine W_rd (rd_move rfl) rfl rfl rfl ?_
      refine W_split (dd := 34) rfl (fun ht34 => ?_) (fun ht34 => ?_)
      ·
        refine W_gf rfl rfl rfl (by first | exact .inl rfl | exact .inr rfl) rfl rfl ?_
        refine W_gf rfl rfl rfl (by first | exact .inl rfl | exact .inr rfl) rfl rfl ?_
        refine W_gf rfl rfl rfl (by first | exact .inl rfl | exact .inr rfl) rfl rfl ?_
        refine W_gf rfl rfl rfl (by first | exact .inl rfl | exact .inr rfl) rfl rfl ?_
        refine W_rd (rd_pick rfl rfl) rfl rfl rfl ?_
        refine W_nil ?_
        refine N_then ?_
        refine C_cond rfl (fun _ => ?_) (fun h => by cases h)
        refine C_seq ?_
        refine C_region ?_
        refine W_rd (rd_assign rfl) rfl rfl rfl ?_
        refine W_nil ?_
        refine N_then ?_
        refine C_ret ?_
        repeat (first | refine Rt_then ?_ | refine Rt_block ?_)
        exact Ret1 [] rfl rfl rfl rfl ⟨rfl, rfl⟩
      ·
        have hs1 : s.nm.length ≤ 50 := (by simp at ht34; omega)
        refine W_gt rfl rfl rfl (op_rd (rd_fieldAddr fa65_2 rfl) rfl rfl ?_)
        first | refine W_gt rfl rfl rfl (op_load 0 rfl rfl sc27 rfl rfl ?_) | refine W_gt rfl rfl rfl (op_load 1 rfl rfl sc27 rfl rfl ?_) | refine W_gt rfl rfl rfl (op_load 2 rfl rfl sc27 rfl rfl ?_) | refine W_gt rfl rfl rfl (op_load 3 rfl rfl sc27 rfl rfl ?_) | refine W_gt rfl rfl rfl (op_load 4 rfl rfl sc27 rfl rfl ?_) | refine W_gt rfl rfl rfl (op_load 5 rfl rfl sc27 rfl rfl ?_) | refine W_gt rfl rfl rfl (op_load 6 rfl rfl sc27 rfl rfl ?_) | refine W_gt rfl rfl rfl (op_load 7 rfl rfl sc27 rfl rfl ?_)
        refine W_gt rfl rfl rfl (op_rd (rd_len sl27.und rfl) rfl rfl ?_)
        refine W_gt rfl rfl rfl (op_rd (rd_bin rfl rfl rfl) rfl rfl ?_)
        refine W_rd (rd_pick rfl rfl) rfl rfl rfl ?_
        refine W_nil ?_
        refine N_then ?_
        refine C_cond rfl (fun ht39 => ?_) (fun ht39 => ?_)
        ·
          refine C_seq ?_
          refine C_region ?_
          refine W_rd (rd_assign rfl) rfl rfl rfl ?_
          refine W_nil ?_
          refine N_then ?_
          refine C_ret ?_
          repeat (first | refine Rt_then ?_ | refine Rt_block ?_)
          exact Ret1 [] rfl rfl rfl rfl ⟨rfl, rfl⟩
        ·
          have hs2 : s.pl.length ≤ 50 := (by simp at ht39; omega)
          have hall' : ∀ s ∈ l.take (k + 1), s.nm.length ≤ 50 ∧ s.pl.length ≤ 50 := by
            intro x hx; rw [List.take_add_one, he] at hx; simp at hx; rcases hx with hx | rfl; exact hall x hx; exact ⟨hs1, hs2⟩
          refine C_skip ?_
          refine N_then ?_
          refine C_seq ?_
          refine C_region ?_
          refine W_rd (rd_move rfl) rfl rfl rfl ?_
          first | refine W_op rfl (op_loads 0 rfl rfl ag65 rfl rfl rfl ?_) | refine W_op rfl (op_loads 1 rfl rfl ag65 rfl rfl rfl ?_) | refine W_op rfl (op_loads 2 rfl rfl ag65 rfl rfl rfl ?_) | refine W_op rfl (op_loads 3 rfl rfl ag65 rfl rfl rfl ?_) | refine W_op rfl (op_loads 4 rfl rfl ag65 rfl rfl rfl ?_) | refine W_op rfl (op_loads 5 rfl rfl ag65 rfl rfl rfl ?_) | refine W_op rfl (op_loads 6 rfl rfl ag65 rfl rfl rfl ?_) | refine W_op rfl (op_loads 7 rfl rfl ag65 rfl rfl rfl ?_)
          refine W_op rfl (op_call (smFrame_c s hs1) Tryz.func28 rfl rfl rfl (pickR_spec (is := []) rfl) (fun o hle _ => (hP s (List.mem_of_getElem? he)).mono hle) rfl ?_)
          rintro xt42 Ht42 ⟨rfl, rfl⟩
          refine W_op rfl (op_slice sl63 ze67 rfl rfl rfl rfl rfl rfl (by omega) rfl ?_)
          intro At43 hAt43
          refine W_op rfl (op_append 2 sl63 rfl rfl rfl (Src.ofRow 0 rfl rfl) rfl (by omega) rfl ?_)
          intro At44 ct44 Ht44 hHt44; obtain rfl := Option.some.inj hHt44
          refine W_rd (rd_assign rfl) rfl rfl rfl ?_
          refine W_nil ?_
          refine N_then ?_
          refine C_pick [2] rfl ?_
          refine C_eqH (H' := [Row 3 67 At44 (k + 1) ct44 (smF l (k + 1))]) (by rw [smF_succ he]; rfl) ?_
          refine C_join [(0, .sl A l.length cp), (1, .str nm), (5, .sl At44 (k + 1) ct44), (6, .b (rises (l.map Sm.frm) (k + 1))), (23, .sl A l.length cp), (24, .i64 (l.length : Int)), (25, .i64 (k : Int))] ([Row 3 67 At44 (k + 1) ct44 (smF l (k + 1))]) ?_ ?_
          ·
            rcases k with _ | j
            ·
              refine C_draw (by kernel_rfl) none _ _ (pickR_spec (is := []) rfl) ?_
              intro c13 hle13 hsub13 back13
              have hrow := hsub13.row 0 rfl
              refine D_take (i := 0) rfl (by kernel_rfl) (rd_move rfl) rfl rfl rfl ?_
              refine D_take (i := 1) rfl (by kernel_rfl) (rd_move rfl) rfl rfl rfl ?_
              refine D_split (dd := 46) rfl (fun ht46 => ?_) (fun ht46 => ?_)
              ·
                refine D_takeg (i := 2) rfl (by kernel_rfl) (rd_move rfl) rfl rfl rfl rfl rfl ?_
                first | refine D_takeg (i := 3) rfl (by kernel_rfl) (rd_eq0z rfl rfl) rfl rfl rfl rfl rfl ?_ | refine D_takeg (i := 3) rfl (by kernel_rfl) (rd_eq0s rfl rfl) rfl rfl rfl rfl rfl ?_
                refine D_takeg (i := 4) rfl (by kernel_rfl) (rd_move rfl) rfl rfl rfl rfl rfl ?_
                refine D_takef (i := 5) rfl (by kernel_rfl) rfl rfl rfl rfl rfl (by first | exact .inl rfl | exact .inr rfl) ?_
                refine D_takef (i := 6) rfl (by kernel_rfl) rfl rfl rfl rfl rfl (by first | exact .inl rfl | exact .inr rfl) ?_
                refine D_takef (i := 7) rfl (by kernel_rfl) rfl rfl rfl rfl rfl (by first | exact .inl rfl | exact .inr rfl) ?_
                refine D_takef (i := 8) rfl (by kernel_rfl) rfl rfl rfl rfl rfl (by first | exact .inl rfl | exact .inr rfl) ?_
                refine D_takef (i := 9) rfl (by kernel_rfl) rfl rfl rfl rfl rfl (by first | exact .inl rfl | exact .inr rfl) ?_
                refine D_takef (i := 10) rfl (by kernel_rfl) rfl rfl rfl rfl rfl (by first | exact .inl rfl | exact .inr rfl) ?_
                refine D_takef (i := 11) rfl (by kernel_rfl) rfl rfl rfl rfl rfl (by first | exact .inl rfl | exact .inr rfl) ?_
                refine D_takef (i := 12) rfl (by kernel_rfl) rfl rfl rfl rfl rfl (by first | exact .inl rfl | exact .inr rfl) ?_
                refine D_takef (i := 13) rfl (by kernel_rfl) rfl rfl rfl rfl rfl (by first | exact .inl rfl | exact .inr rfl) ?_
                refine D_takef (i := 14) rfl (by kernel_rfl) rfl rfl rfl rfl rfl (by first | exact .inl rfl | exact .inr rfl) ?_
                refine D_takef (i := 15) rfl (by kernel_rfl) rfl rfl rfl rfl rfl (by first | exact .inl rfl | exact .inr rfl) ?_
                refine D_takef (i := 16) rfl (by kernel_rfl) rfl rfl rfl rfl rfl (by first | exact .inl rfl | exact .inr rfl) ?_
                refine D_takeg (i := 17) rfl (by kernel_rfl) (rd_pick rfl rfl) rfl rfl rfl rfl rfl ?_
                refine D_take (i := 18) rfl (by kernel_rfl) (rd_pick rfl rfl) rfl rfl rfl ?_
                refine D_take (i := 19) rfl (by kernel_rfl) (rd_assign rfl) rfl rfl rfl ?_
                refine D_done (by kernel_rfl) back13 ?_
                refine N_joined ⟨rfl, rfl, rfl, congrArg (fun t => some (TV.b t)) (?_ : _ = rises _ _), rfl, rfl, rfl, trivial⟩ (List.Perm.refl _)
                first | (simp [rises, gtAt]; done) | (exfalso; simp [rises] at ht46; done) | (rw [rises, show rises (l.map Sm.frm) (j + 1) = false from ht46]; rfl) | (rw [rises, show rises (l.map Sm.frm) (j + 1) = true from ht46]; simp [gtAt, smMap he, smMap he0, notGt]; done)
              ·
                refine D_takef (i := 2) rfl (by kernel_rfl) rfl rfl rfl rfl rfl (by first | exact .inl rfl | exact .inr rfl) ?_
                refine D_takef (i := 3) rfl (by kernel_rfl) rfl rfl rfl rfl rfl (by first | exact .inl rfl | exact .inr rfl) ?_
                refine D_takef (i := 4) rfl (by kernel_rfl) rfl rfl rfl rfl rfl (by first | exact .inl rfl | exact .inr rfl) ?_
                refine D_takef (i := 5) rfl (by kernel_rfl) rfl rfl rfl rfl rfl (by first | exact .inl rfl | exact .inr rfl) ?_
                refine D_takef (i := 6) rfl (by kernel_rfl) rfl rfl rfl rfl rfl (by first | exact .inl rfl | exact .inr rfl) ?_
                refine D_takef (i := 7) rfl (by kernel_rfl) rfl rfl rfl rfl rfl (by first | exact .inl rfl | exact .inr rfl) ?_
                refine D_takef (i := 8) rfl (by kernel_rfl) rfl rfl rfl rfl rfl (by first | exact .inl rfl | exact .inr rfl) ?_
                refine D_takef (i := 9) rfl (by kernel_rfl) rfl rfl rfl rfl rfl (by first | exact .inl rfl | exact .inr rfl) ?_
                refine D_takef (i := 10) rfl (by kernel_rfl) rfl rfl rfl rfl rfl (by first | exact .inl rfl | exact .inr rfl) ?_
                refine D_takef (i := 11) rfl (by kernel_rfl) rfl rfl rfl rfl rfl (by first | exact .inl rfl | exact .inr rfl) ?_
                refine D_takef (i := 12) rfl (by kernel_rfl) rfl rfl rfl rfl rfl (by first | exact .inl rfl | exact .inr rfl) ?_
                refine D_takef (i := 13) rfl (by kernel_rfl) rfl rfl rfl rfl rfl (by first | exact .inl rfl | exact .inr rfl) ?_
                refine D_takef (i := 14) rfl (by kernel_rfl) rfl rfl rfl rfl rfl (by first | exact .inl rfl | exact .inr rfl) ?_
                refine D_takef (i := 15) rfl (by kernel_rfl) rfl rfl rfl rfl rfl (by first | exact .inl rfl | exact .inr rfl) ?_
                refine D_takef (i := 16) rfl (by kernel_rfl) rfl rfl rfl rfl rfl (by first | exact .inl rfl | exact .inr rfl) ?_
                refine D_takef (i := 17) rfl (by kernel_rfl) rfl rfl rfl rfl rfl (by first | exact .inl rfl | exact .inr rfl) ?_
                refine D_take (i := 18) rfl (by kernel_rfl) (rd_pick rfl rfl) rfl rfl rfl ?_
                refine D_take (i := 19) rfl (by kernel_rfl) (rd_assign rfl) rfl rfl rfl ?_
                refine D_done (by kernel_rfl) back13 ?_
                refine N_joined ⟨rfl, rfl, rfl, congrArg (fun t => some (TV.b t)) (?_ : _ = rises _ _), rfl, rfl, rfl, trivial⟩ (List.Perm.refl _)
                first | (simp [rises, gtAt]; done) | (exfalso; simp [rises] at ht46; done) | (rw [rises, show rises (l.map Sm.frm) (j + 1) = false from ht46]; rfl) | (rw [rises, show rises (l.map Sm.frm) (j + 1) = true from ht46]; simp [gtAt, smMap he, smMap he0, notGt]; done)
            ·
              obtain ⟨s0, he0⟩ : ∃ e, l[j]? = some e := ⟨l[j], by simp⟩
              have hg1 := smF_get (k := j + 1 + 1) he (by omega)
              have hg0 := smF_get (k := j + 1 + 1) he0 (by omega)
              refine C_draw (by kernel_rfl) none _ _ (pickR_spec (is := []) rfl) ?_
              intro c13 hle13 hsub13 back13
              have hrow := hsub13.row 0 rfl
              refine D_take (i := 0) rfl (by kernel_rfl) (rd_move rfl) rfl rfl rfl ?_
              refine D_take (i := 1) rfl (by kernel_rfl) (rd_move rfl) rfl rfl rfl ?_
              refine D_split (dd := 46) rfl (fun ht46 => ?_) (fun ht46 => ?_)
              ·
                refine D_takeg (i := 2) rfl (by kernel_rfl) (rd_move rfl) rfl rfl rfl rfl rfl ?_
                first | refine D_takeg (i := 3) rfl (by kernel_rfl) (rd_eq0z rfl rfl) rfl rfl rfl rfl rfl ?_ | refine D_takeg (i := 3) rfl (by kernel_rfl) (rd_eq0s rfl rfl) rfl rfl rfl rfl rfl ?_
                refine D_takeg (i := 4) rfl (by kernel_rfl) (rd_move rfl) rfl rfl rfl rfl rfl ?_
                refine D_takeg (i := 5) rfl (by kernel_rfl) (rd_move rfl) rfl rfl rfl rfl rfl ?_
                refine D_takeg (i := 6) rfl (by kernel_rfl) (rd_move rfl) rfl rfl rfl rfl rfl ?_
                refine D_takeg (i := 7) rfl (by kernel_rfl) (rd_indexN sl63 hrow rfl rfl (by omega)) rfl rfl rfl rfl rfl ?_
                refine D_takeg (i := 8) rfl (by kernel_rfl) (rd_fieldAddr_elR fa67_0 rfl (RS.addr hrow (by omega))) rfl rfl rfl rfl rfl ?_
                refine D_takeg (i := 9) rfl (by kernel_rfl) (rd_load_el hrow rfl sc9 (flat_cell (f := Frm.tv) (fun _ => rfl) hg1 rfl)) rfl rfl rfl rfl rfl ?_
                refine D_takeg (i := 10) rfl (by kernel_rfl) (rd_move rfl) rfl rfl rfl rfl rfl ?_
                refine D_takeg (i := 11) rfl (by kernel_rfl) (rd_move rfl) rfl rfl rfl rfl rfl ?_
                first | refine D_takeg (i := 12) rfl (by kernel_rfl) (rd_ipred rfl rfl (by omega)) rfl rfl rfl rfl rfl ?_
                refine D_takeg (i := 13) rfl (by kernel_rfl) (rd_indexN sl63 hrow rfl rfl (by omega)) rfl rfl rfl rfl rfl ?_
                refine D_takeg (i := 14) rfl (by kernel_rfl) (rd_fieldAddr_elR fa67_0 rfl (RS.addr hrow (by omega))) rfl rfl rfl rfl rfl ?_
                refine D_takeg (i := 15) rfl (by kernel_rfl) (rd_load_el hrow rfl sc9 (flat_cell (f := Frm.tv) (fun _ => rfl) hg0 rfl)) rfl rfl rfl rfl rfl ?_
                refine D_takeg (i := 16) rfl (by kernel_rfl) (rd_str rfl rfl rfl) rfl rfl rfl rfl rfl ?_
                refine D_takeg (i := 17) rfl (by kernel_rfl) (rd_pick rfl rfl) rfl rfl rfl rfl rfl ?_
                refine D_take (i := 18) rfl (by kernel_rfl) (rd_pick rfl rfl) rfl rfl rfl ?_
                refine D_take (i := 19) rfl (by kernel_rfl) (rd_assign rfl) rfl rfl rfl ?_
                refine D_done (by kernel_rfl) back13 ?_
                refine N_joined ⟨rfl, rfl, rfl, congrArg (fun t => some (TV.b t)) (?_ : _ = rises _ _), rfl, rfl, rfl, trivial⟩ (List.Perm.refl _)
                first | (simp [rises, gtAt]; done) | (exfalso; simp [rises] at ht46; done) | (rw [rises, show rises (l.map Sm.frm) (j + 1) = false from ht46]; rfl) | (rw [rises, show rises (l.map Sm.frm) (j + 1) = true from ht46]; simp [gtAt, smMap he, smMap he0, notGt]; done)
              ·
                refine D_takef (i := 2) rfl (by kernel_rfl) rfl rfl rfl rfl rfl (by first | exact .inl rfl | exact .inr rfl) ?_
                refine D_takef (i := 3) rfl (by kernel_rfl) rfl rfl rfl rfl rfl (by first | exact .inl rfl | exact .inr rfl) ?_
                refine D_takef (i := 4) rfl (by kernel_rfl) rfl rfl rfl rfl rfl (by first | exact .inl rfl | exact .inr rfl) ?_
                refine D_takef (i := 5) rfl (by kernel_rfl) rfl rfl rfl rfl rfl (by first | exact .inl rfl | exact .inr rfl) ?_
                refine D_takef (i := 6) rfl (by kernel_rfl) rfl rfl rfl rfl rfl (by first | exact .inl rfl | exact .inr rfl) ?_
                refine D_takef (i := 7) rfl (by kernel_rfl) rfl rfl rfl rfl rfl (by first | exact .inl rfl | exact .inr rfl) ?_
                refine D_takef (i := 8) rfl (by kernel_rfl) rfl rfl rfl rfl rfl (by first | exact .inl rfl | exact .inr rfl) ?_
                refine D_takef (i := 9) rfl (by kernel_rfl) rfl rfl rfl rfl rfl (by first | exact .inl rfl | exact .inr rfl) ?_
                refine D_takef (i := 10) rfl (by kernel_rfl) rfl rfl rfl rfl rfl (by first | exact .inl rfl | exact .inr rfl) ?_
                refine D_takef (i := 11) rfl (by kernel_rfl) rfl rfl rfl rfl rfl (by first | exact .inl rfl | exact .inr rfl) ?_
                refine D_takef (i := 12) rfl (by kernel_rfl) rfl rfl rfl rfl rfl (by first | exact .inl rfl | exact .inr rfl) ?_
                refine D_takef (i := 13) rfl (by kernel_rfl) rfl rfl rfl rfl rfl (by first | exact .inl rfl | exact .inr rfl) ?_
                refine D_takef (i := 14) rfl (by kernel_rfl) rfl rfl rfl rfl rfl (by first | exact .inl rfl | exact .inr rfl) ?_
                refine D_takef (i := 15) rfl (by kernel_rfl) rfl rfl rfl rfl rfl (by first | exact .inl rfl | exact .inr rfl) ?_
                refine D_takef (i := 16) rfl (by kernel_rfl) rfl rfl rfl rfl rfl (by first | exact .inl rfl | exact .inr rfl) ?_
                refine D_takef (i := 17) rfl (by kernel_rfl) rfl rfl rfl rfl rfl (by first | exact .inl rfl | exact .inr rfl) ?_
                refine D_take (i := 18) rfl (by kernel_rfl) (rd_pick rfl rfl) rfl rfl rfl ?_
                refine D_take (i := 19) rfl (by kernel_rfl) (rd_assign rfl) rfl rfl rfl ?_
                refine D_done (by kernel_rfl) back13 ?_
                refine N_joined ⟨rfl, rfl, rfl, congrArg (fun t => some (TV.b t)) (?_ : _ = rises _ _), rfl, rfl, rfl, trivial⟩ (List.Perm.refl _)
                first | (simp [rises, gtAt]; done) | (exfalso; simp [rises] at ht46; done) | (rw [rises, show rises (l.map Sm.frm) (j + 1) = false from ht46]; rfl) | (rw [rises, show rises (l.map Sm.frm) (j + 1) = true from ht46]; simp [gtAt, smMap he, smMap he0, notGt]; done)
          ·
            refine N_block ?_
            refine N_then ?_
            refine C_region ?_
            refine W_rd (rd_iadd rfl rfl (by omega)) rfl rfl rfl ?_
            refine W_rd (rd_move rfl) rfl rfl rfl ?_
            refine W_nil ?_
            refine N_round (k + 1, At44, ct44) ⟨hk, hall'⟩ (by simp only []; omega) (subL.spec ⟨rfl, rfl, rfl, rfl, rfl, rfl, rfl, trivial⟩) (List.Perm.refl _)
    ·
      obtain ⟨k, A', cp'⟩ := q
      obtain ⟨hk0, hall⟩ := hI0
      simp only [] at hk0 hall ht26
      obtain rfl : k = l.length := (by simp at ht26; omega)
      rw [List.take_length] at hall
      have hlaw := closeLaw (l.map Sm.frm) (by intro f hf; simp at hf; obtain ⟨s, hs, rfl⟩ := hf; exact Sm.fine (hall s hs).1 (hall s hs).2) (by simpa using hl10)
      rw [List.length_map] at hlaw
      have hfr : ∀ o, c.o.le o → ∀ f ∈ (l.map Sm.frm), RS o 1 f.A f.pl.length f.cp (f.pl.map .u8) := by intro o hle f hf; simp at hf; obtain ⟨s, hs, rfl⟩ := hf; exact ((hP s hs).mono hle).2
      refine C_exit ?_
      repeat (first | refine X_then ?_ | refine X_here ?_ | refine X_block rfl ?_)
      refine N_then ?_
      refine C_seq ?_
      refine C_region ?_
      refine W_rd (rd_move rfl) rfl rfl rfl ?_
      refine W_op rfl (op_call (most_c) Tryz.func30 rfl rfl rfl (pickR_spec (is := []) rfl) (fun _ _ _ => trivial) rfl ?_)
      rintro xt67 Ht67 ⟨rfl, rfl⟩
      refine W_op rfl (op_call (close_n A' cp' (l.map Sm.frm) 1000 1048576 (by simp)) Tryz.func29 rfl rfl rfl (pickR_spec (is := []) rfl) (fun o hle hsub => ⟨by have := hsub.row 0 rfl; simpa only [smF, List.take_length] using this, hfr o hle⟩) rfl ?_)
      rintro xt68 Ht68 (⟨h0, A1, c1, rfl, rfl⟩ | ⟨h0, hx, rfl⟩)
      ·
        have hrise : rises (l.map Sm.frm) l.length = true := by rw [hlaw] at h0; by_cases hr : rises (l.map Sm.frm) l.length = true; exact hr; simp [hr] at h0
        refine W_rd (rd_move rfl) rfl rfl rfl ?_
        refine W_rd (rd_extract rfl rfl) rfl rfl rfl ?_
        refine W_rd (rd_extract rfl rfl) rfl rfl rfl ?_
        refine W_rd (rd_assign rfl) rfl rfl rfl ?_
        refine W_rd (rd_assign rfl) rfl rfl rfl ?_
        refine W_nil ?_
        refine N_then ?_
        refine C_seq ?_
        refine C_seq ?_
        refine C_region ?_
        refine W_rd (rd_move rfl) rfl rfl rfl ?_
        refine W_rd (rd_move rfl) rfl rfl rfl ?_
        refine W_rd (rd_bin rfl rfl rfl) rfl rfl rfl ?_
        refine W_rd (rd_bne un4 rfl rfl) rfl rfl rfl ?_
        refine W_rd (rd_move rfl) rfl rfl rfl ?_
        refine W_split (dd := 75) rfl (fun h => by first | (cases h; done) | (simp at h; done) | (simp at h; omega) | (simp [hrise] at h; done)) (fun ht75 => ?_)
        ·
          refine W_gt rfl rfl rfl (op_rd (rd_move rfl) rfl rfl ?_)
          refine W_gt rfl rfl rfl (op_rd (rd_un rfl rfl) rfl rfl ?_)
          refine W_gt rfl rfl rfl (op_rd (rd_move rfl) rfl rfl ?_)
          refine W_split (dd := 78) rfl (fun h => by first | (cases h; done) | (simp at h; done) | (simp at h; omega) | (simp [hrise] at h; done)) (fun ht78 => ?_)
          ·
            refine W_gf rfl rfl rfl (by first | exact .inl rfl | exact .inr rfl) rfl rfl ?_
            refine W_gf rfl rfl rfl (by first | exact .inl rfl | exact .inr rfl) rfl rfl ?_
            refine W_gf rfl rfl rfl (by first | exact .inl rfl | exact .inr rfl) rfl rfl ?_
            refine W_gf rfl rfl rfl (by first | exact .inl rfl | exact .inr rfl) rfl rfl ?_
            refine W_gf rfl rfl rfl (by first | exact .inl rfl | exact .inr rfl) rfl rfl ?_
            refine W_gf rfl rfl rfl (by first | exact .inl rfl | exact .inr rfl) rfl rfl ?_
            refine W_gf rfl rfl rfl (by first | exact .inl rfl | exact .inr rfl) rfl rfl ?_
            refine W_gt rfl rfl rfl (op_rd (rd_pick rfl rfl) rfl rfl ?_)
            refine W_rd (rd_pick rfl rfl) rfl rfl rfl ?_
            refine W_nil ?_
            refine N_then ?_
            refine C_cond rfl (fun h => by cases h) (fun _ => ?_)
            refine C_skip ?_
            refine N_then ?_
            refine C_seq ?_
            refine C_region ?_
            refine W_rd (rd_assign rfl) rfl rfl rfl ?_
            refine W_nil ?_
            refine N_then ?_
            refine C_seq ?_
            refine C_region ?_
            refine W_rd (rd_move rfl) rfl rfl rfl ?_
            refine W_rd (rd_move rfl) rfl rfl rfl ?_
            refine W_op rfl (op_call (frameNil_c nm) Tryz.func31 rfl rfl rfl (pickR_spec (is := []) rfl) (fun _ _ _ => trivial) rfl ?_)
            rintro xt91 Ht91 ⟨rfl, rfl⟩
            refine W_rd (rd_move rfl) rfl rfl rfl ?_
            refine W_rd (rd_extract rfl rfl) rfl rfl rfl ?_
            refine W_rd (rd_extract rfl rfl) rfl rfl rfl ?_
            refine W_op rfl (op_alloc ze67 rfl ?_)
            intro gt12
            first | refine W_op rfl (op_sts 0 rfl rfl rfl ag67 rfl rfl rfl rfl ?_) | refine W_op rfl (op_sts 1 rfl rfl rfl ag67 rfl rfl rfl rfl ?_) | refine W_op rfl (op_sts 2 rfl rfl rfl ag67 rfl rfl rfl rfl ?_) | refine W_op rfl (op_sts 3 rfl rfl rfl ag67 rfl rfl rfl rfl ?_) | refine W_op rfl (op_sts 4 rfl rfl rfl ag67 rfl rfl rfl rfl ?_) | refine W_op rfl (op_sts 5 rfl rfl rfl ag67 rfl rfl rfl rfl ?_) | refine W_op rfl (op_sts 6 rfl rfl rfl ag67 rfl rfl rfl rfl ?_) | refine W_op rfl (op_sts 7 rfl rfl rfl ag67 rfl rfl rfl rfl ?_)
            refine W_rd (rd_assign rfl) rfl rfl rfl ?_
            refine W_nil ?_
            refine N_then ?_
            refine C_seq ?_
            refine C_region ?_
            refine W_rd (rd_move rfl) rfl rfl rfl ?_
            refine W_rd (rd_move rfl) rfl rfl rfl ?_
            refine W_op rfl (op_call (getNil_c nm) Tryz.func32 rfl rfl rfl (pickR_spec (is := []) rfl) (fun _ _ _ => trivial) rfl ?_)
            rintro xt97 Ht97 ⟨rfl, rfl⟩
            refine W_rd (rd_move rfl) rfl rfl rfl ?_
            refine W_rd (rd_extract rfl rfl) rfl rfl rfl ?_
            refine W_rd (rd_extract rfl rfl) rfl rfl rfl ?_
            refine W_op rfl (op_alloc ze47 rfl ?_)
            intro gt14
            first | refine W_op rfl (op_sts 0 rfl rfl rfl ag47 rfl rfl rfl rfl ?_) | refine W_op rfl (op_sts 1 rfl rfl rfl ag47 rfl rfl rfl rfl ?_) | refine W_op rfl (op_sts 2 rfl rfl rfl ag47 rfl rfl rfl rfl ?_) | refine W_op rfl (op_sts 3 rfl rfl rfl ag47 rfl rfl rfl rfl ?_) | refine W_op rfl (op_sts 4 rfl rfl rfl ag47 rfl rfl rfl rfl ?_) | refine W_op rfl (op_sts 5 rfl rfl rfl ag47 rfl rfl rfl rfl ?_) | refine W_op rfl (op_sts 6 rfl rfl rfl ag47 rfl rfl rfl rfl ?_) | refine W_op rfl (op_sts 7 rfl rfl rfl ag47 rfl rfl rfl rfl ?_)
            refine W_rd (rd_assign rfl) rfl rfl rfl ?_
            refine W_nil ?_
            refine N_then ?_
            refine C_seq ?_
            refine C_region ?_
            refine W_rd (rd_move rfl) rfl rfl rfl ?_
            refine W_op rfl (op_call (allNil_c) Tryz.func33 rfl rfl rfl (pickR_spec (is := []) rfl) (fun _ _ _ => trivial) rfl ?_)
            rintro xt102 Ht102 ⟨rfl, rfl⟩
            refine W_rd (rd_move rfl) rfl rfl rfl ?_
            refine W_rd (rd_extract rfl rfl) rfl rfl rfl ?_
            refine W_rd (rd_extract rfl rfl) rfl rfl rfl ?_
            refine W_rd (rd_assign rfl) rfl rfl rfl ?_
            refine W_rd (rd_assign rfl) rfl rfl rfl ?_
            refine W_nil ?_
            refine N_then ?_
            refine C_seq ?_
            refine C_region ?_
            refine W_rd (rd_move rfl) rfl rfl rfl ?_
            refine W_rd (rd_bin rfl rfl rfl) rfl rfl rfl ?_
            refine W_rd (rd_move rfl) rfl rfl rfl ?_
            refine W_split (dd := 107) rfl (fun ht107 => ?_) (fun h => by first | (cases h; done) | (simp at h; done) | (simp at h; omega) | (simp [hrise] at h; done))
            ·
              refine W_gt rfl rfl rfl (op_rd (rd_move rfl) rfl rfl ?_)
              refine W_gt rfl rfl rfl (op_rd (rd_bin rfl rfl rfl) rfl rfl ?_)
              refine W_rd (rd_pick rfl rfl) rfl rfl rfl ?_
              refine W_rd (rd_move rfl) rfl rfl rfl ?_
              refine W_split (dd := 111) rfl (fun ht111 => ?_) (fun h => by first | (cases h; done) | (simp at h; done) | (simp at h; omega) | (simp [hrise] at h; done))
              ·
                refine W_gt rfl rfl rfl (op_rd (rd_move rfl) rfl rfl ?_)
                refine W_gt rfl rfl rfl (op_rd (rd_bin rfl rfl rfl) rfl rfl ?_)
                refine W_rd (rd_pick rfl rfl) rfl rfl rfl ?_
                refine W_rd (rd_move rfl) rfl rfl rfl ?_
                refine W_split (dd := 115) rfl (fun ht115 => ?_) (fun h => by first | (cases h; done) | (simp at h; done) | (simp at h; omega) | (simp [hrise] at h; done))
                ·
                  refine W_gt rfl rfl rfl (op_rd (rd_move rfl) rfl rfl ?_)
                  refine W_gt rfl rfl rfl (op_call (namesNil_c) Tryz.func34 rfl rfl rfl (pickR_spec (is := []) rfl) (fun _ _ _ => trivial) rfl ?_)
                  rintro xt117 Ht117 ⟨rfl, rfl⟩
                  refine W_gt rfl rfl rfl (op_rd (rd_len sl80.und rfl) rfl rfl ?_)
                  refine W_gt rfl rfl rfl (op_rd (rd_bin rfl rfl rfl) rfl rfl ?_)
                  refine W_rd (rd_pick rfl rfl) rfl rfl rfl ?_
                  refine W_rd (rd_assign rfl) rfl rfl rfl ?_
                  refine W_nil ?_
                  refine N_then ?_
                  refine C_ret ?_
                  repeat (first | refine Rt_then ?_ | refine Rt_block ?_)
                  exact Ret1 [] rfl rfl rfl rfl ⟨rfl, rfl⟩
      ·
        have hrise : rises (l.map Sm.frm) l.length = false := by rw [hlaw] at h0; by_cases hr : rises (l.map Sm.frm) l.length = true; simp [hr] at h0; simpa using hr
        have hc8 : (closeB (l.map Sm.frm) 1000 1048576).1 = 8 := by rw [hlaw, hrise]; rfl
        rw [hc8] at hx
        subst hx
        refine W_rd (rd_move rfl) rfl rfl rfl ?_
        refine W_rd (rd_extract rfl rfl) rfl rfl rfl ?_
        refine W_rd (rd_extract rfl rfl) rfl rfl rfl ?_
        refine W_rd (rd_assign rfl) rfl rfl rfl ?_
        refine W_rd (rd_assign rfl) rfl rfl rfl ?_
        refine W_nil ?_
        refine N_then ?_
        refine C_seq ?_
        refine C_seq ?_
        refine C_region ?_
        refine W_rd (rd_move rfl) rfl rfl rfl ?_
        refine W_rd (rd_move rfl) rfl rfl rfl ?_
        refine W_rd (rd_bin rfl rfl rfl) rfl rfl rfl ?_
        refine W_rd (rd_bne un4 rfl rfl) rfl rfl rfl ?_
        refine W_rd (rd_move rfl) rfl rfl rfl ?_
        refine W_split (dd := 75) rfl (fun h => by first | (cases h; done) | (simp at h; done) | (simp at h; omega) | (simp [hrise] at h; done)) (fun ht75 => ?_)
        ·
          refine W_gt rfl rfl rfl (op_rd (rd_move rfl) rfl rfl ?_)
          refine W_gt rfl rfl rfl (op_rd (rd_un rfl rfl) rfl rfl ?_)
          refine W_gt rfl rfl rfl (op_rd (rd_move rfl) rfl rfl ?_)
          refine W_split (dd := 78) rfl (fun ht78 => ?_) (fun h => by first | (cases h; done) | (simp at h; done) | (simp at h; omega) | (simp [hrise] at h; done))
          ·
            refine W_gt rfl rfl rfl (op_rd (rd_move rfl) rfl rfl ?_)
            refine W_gt rfl rfl rfl (op_rd (rd_bin rfl rfl rfl) rfl rfl ?_)
            refine W_gt rfl rfl rfl (op_rd (rd_move rfl) rfl rfl ?_)
            refine W_split (dd := 81) rfl (fun h => by first | (cases h; done) | (simp at h; done) | (simp at h; omega) | (simp [hrise] at h; done)) (fun ht81 => ?_)
            ·
              refine W_gt rfl rfl rfl (op_rd (rd_move rfl) rfl rfl ?_)
              refine W_gt rfl rfl rfl (op_rd (rd_len sl27.und rfl) rfl rfl ?_)
              refine W_gt rfl rfl rfl (op_rd (rd_bin rfl rfl rfl) rfl rfl ?_)
              refine W_gt rfl rfl rfl (op_rd (rd_pick rfl rfl) rfl rfl ?_)
              refine W_gt rfl rfl rfl (op_rd (rd_pick rfl rfl) rfl rfl ?_)
              refine W_rd (rd_pick rfl rfl) rfl rfl rfl ?_
              refine W_nil ?_
              refine N_then ?_
              refine C_cond rfl (fun h => by first | (cases h; done) | (simp at h; done) | (simp at h; omega) | (simp [hrise] at h; done)) (fun ht87 => ?_)
              refine C_skip ?_
              refine N_then ?_
              refine C_seq ?_
              refine C_region ?_
              refine W_rd (rd_assign rfl) rfl rfl rfl ?_
              refine W_nil ?_
              refine N_then ?_
              refine C_seq ?_
              refine C_region ?_
              refine W_rd (rd_move rfl) rfl rfl rfl ?_
              refine W_rd (rd_move rfl) rfl rfl rfl ?_
              refine W_op rfl (op_call (frameNil_c nm) Tryz.func31 rfl rfl rfl (pickR_spec (is := []) rfl) (fun _ _ _ => trivial) rfl ?_)
              rintro xt91 Ht91 ⟨rfl, rfl⟩
              refine W_rd (rd_move rfl) rfl rfl rfl ?_
              refine W_rd (rd_extract rfl rfl) rfl rfl rfl ?_
              refine W_rd (rd_extract rfl rfl) rfl rfl rfl ?_
              refine W_op rfl (op_alloc ze67 rfl ?_)
              intro gt12
              first | refine W_op rfl (op_sts 0 rfl rfl rfl ag67 rfl rfl rfl rfl ?_) | refine W_op rfl (op_sts 1 rfl rfl rfl ag67 rfl rfl rfl rfl ?_) | refine W_op rfl (op_sts 2 rfl rfl rfl ag67 rfl rfl rfl rfl ?_) | refine W_op rfl (op_sts 3 rfl rfl rfl ag67 rfl rfl rfl rfl ?_) | refine W_op rfl (op_sts 4 rfl rfl rfl ag67 rfl rfl rfl rfl ?_) | refine W_op rfl (op_sts 5 rfl rfl rfl ag67 rfl rfl rfl rfl ?_) | refine W_op rfl (op_sts 6 rfl rfl rfl ag67 rfl rfl rfl rfl ?_) | refine W_op rfl (op_sts 7 rfl rfl rfl ag67 rfl rfl rfl rfl ?_)
              refine W_rd (rd_assign rfl) rfl rfl rfl ?_
              refine W_nil ?_
              refine N_then ?_
              refine C_seq ?_
              refine C_region ?_
              refine W_rd (rd_move rfl) rfl rfl rfl ?_
              refine W_rd (rd_move rfl) rfl rfl rfl ?_
              refine W_op rfl (op_call (getNil_c nm) Tryz.func32 rfl rfl rfl (pickR_spec (is := []) rfl) (fun _ _ _ => trivial) rfl ?_)
              rintro xt97 Ht97 ⟨rfl, rfl⟩
              refine W_rd (rd_move rfl) rfl rfl rfl ?_
              refine W_rd (rd_extract rfl rfl) rfl rfl rfl ?_
              refine W_rd (rd_extract rfl rfl) rfl rfl rfl ?_
              refine W_op rfl (op_alloc ze47 rfl ?_)
              intro gt14
              first | refine W_op rfl (op_sts 0 rfl rfl rfl ag47 rfl rfl rfl rfl ?_) | refine W_op rfl (op_sts 1 rfl rfl rfl ag47 rfl rfl rfl rfl ?_) | refine W_op rfl (op_sts 2 rfl rfl rfl ag47 rfl rfl rfl rfl ?_) | refine W_op rfl (op_sts 3 rfl rfl rfl ag47 rfl rfl rfl rfl ?_) | refine W_op rfl (op_sts 4 rfl rfl rfl ag47 rfl rfl rfl rfl ?_) | refine W_op rfl (op_sts 5 rfl rfl rfl ag47 rfl rfl rfl rfl ?_) | refine W_op rfl (op_sts 6 rfl rfl rfl ag47 rfl rfl rfl rfl ?_) | refine W_op rfl (op_sts 7 rfl rfl rfl ag47 rfl rfl rfl rfl ?_)
              refine W_rd (rd_assign rfl) rfl rfl rfl ?_
              refine W_nil ?_
              refine N_then ?_
              refine C_seq ?_
              refine C_region ?_
              refine W_rd (rd_move rfl) rfl rfl rfl ?_
              refine W_op rfl (op_call (allNil_c) Tryz.func33 rfl rfl rfl (pickR_spec (is := []) rfl) (fun _ _ _ => trivial) rfl ?_)
              rintro xt102 Ht102 ⟨rfl, rfl⟩
              refine W_rd (rd_move rfl) rfl rfl rfl ?_
              refine W_rd (rd_extract rfl rfl) rfl rfl rfl ?_
              refine W_rd (rd_extract rfl rfl) rfl rfl rfl ?_
              refine W_rd (rd_assign rfl) rfl rfl rfl ?_
              refine W_rd (rd_assign rfl) rfl rfl rfl ?_
              refine W_nil ?_
              refine N_then ?_
              refine C_seq ?_
              refine C_region ?_
              refine W_rd (rd_move rfl) rfl rfl rfl ?_
              refine W_rd (rd_bin rfl rfl rfl) rfl rfl rfl ?_
              refine W_rd (rd_move rfl) rfl rfl rfl ?_
              refine W_split (dd := 107) rfl (fun ht107 => ?_) (fun h => by first | (cases h; done) | (simp at h; done) | (simp at h; omega) | (simp [hrise] at h; done))
              ·
                refine W_gt rfl rfl rfl (op_rd (rd_move rfl) rfl rfl ?_)
                refine W_gt rfl rfl rfl (op_rd (rd_bin rfl rfl rfl) rfl rfl ?_)
                refine W_rd (rd_pick rfl rfl) rfl rfl rfl ?_
                refine W_rd (rd_move rfl) rfl rfl rfl ?_
                refine W_split (dd := 111) rfl (fun ht111 => ?_) (fun h => by first | (cases h; done) | (simp at h; done) | (simp at h; omega) | (simp [hrise] at h; done))
                ·
                  refine W_gt rfl rfl rfl (op_rd (rd_move rfl) rfl rfl ?_)
                  refine W_gt rfl rfl rfl (op_rd (rd_bin rfl rfl rfl) rfl rfl ?_)
                  refine W_rd (rd_pick rfl rfl) rfl rfl rfl ?_
                  refine W_rd (rd_move rfl) rfl rfl rfl ?_
                  refine W_split (dd := 115) rfl (fun ht115 => ?_) (fun h => by first | (cases h; done) | (simp at h; done) | (simp at h; omega) | (simp [hrise] at h; done))
                  ·
                    refine W_gt rfl rfl rfl (op_rd (rd_move rfl) rfl rfl ?_)
                    refine W_gt rfl rfl rfl (op_call (namesNil_c) Tryz.func34 rfl rfl rfl (pickR_spec (is := []) rfl) (fun _ _ _ => trivial) rfl ?_)
                    rintro xt117 Ht117 ⟨rfl, rfl⟩
                    refine W_gt rfl rfl rfl (op_rd (rd_len sl80.und rfl) rfl rfl ?_)
                    refine W_gt rfl rfl rfl (op_rd (rd_bin rfl rfl rfl) rfl rfl ?_)
                    refine W_rd (rd_pick rfl rfl) rfl rfl rfl ?_
                    refine W_rd (rd_assign rfl) rfl rfl rfl ?_
                    refine W_nil ?_
                    refine N_then ?_
                    refine C_ret ?_
                    repeat (first | refine Rt_then ?_ | refine Rt_block ?_)
                    exact Ret1 [] rfl rfl rfl rfl ⟨rfl, rfl⟩
end Go.Hb.Wk12
