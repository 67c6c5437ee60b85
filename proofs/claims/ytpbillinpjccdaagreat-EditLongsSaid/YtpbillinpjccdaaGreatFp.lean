/- Contracts: the reference of edits. -/
import Derived.Test.YtpbillinpjccdaaGreatFo
namespace Go.Proofs.YtpbillinpjccdaaGreat.Fp
open Go.RowKit Go.J Go.R Go.Proofs.YtpbillinpjccdaaGreat.Fa Go.Proofs.YtpbillinpjccdaaGreat.Fb Go.Proofs.YtpbillinpjccdaaGreat.Fc Go.Proofs.YtpbillinpjccdaaGreat.Fd Go.Proofs.YtpbillinpjccdaaGreat.Fe Go.Proofs.YtpbillinpjccdaaGreat.Fg Go.Proofs.YtpbillinpjccdaaGreat.Fh Go.Proofs.YtpbillinpjccdaaGreat.Fi Go.Proofs.YtpbillinpjccdaaGreat.Fj Go.Proofs.YtpbillinpjccdaaGreat.Fk Go.Proofs.YtpbillinpjccdaaGreat.Fl Go.Proofs.YtpbillinpjccdaaGreat.Fm Go.Proofs.YtpbillinpjccdaaGreat.Fn Go.Proofs.YtpbillinpjccdaaGreat.Fo
set_option linter.unusedVariables false
set_option linter.unusedSimpArgs false
theorem follows : Tryz.prog.follows .mixedOrders = true := by kernel_rfl
theorem AG_39 : AG Tryz.prog 39 2 := ⟨Tryz.isAgg39, Tryz.sizeOf39⟩
theorem AG_42 : AG Tryz.prog 42 6 := ⟨Tryz.isAgg42, Tryz.sizeOf42⟩
theorem EN_112 : Enters Tryz.prog 112 := enters_of Tryz.func112 (by kernel_rfl) rfl
theorem EN_113 : Enters Tryz.prog 113 := enters_of Tryz.func113 (by kernel_rfl) rfl
theorem EN_114 : Enters Tryz.prog 114 := enters_of Tryz.func114 (by kernel_rfl) rfl
theorem EN_40 : Enters Tryz.prog 40 := enters_of Tryz.func40 (by kernel_rfl) rfl
theorem EN_52 : Enters Tryz.prog 52 := enters_of Tryz.func52 (by kernel_rfl) rfl
theorem EN_56 : Enters Tryz.prog 56 := enters_of Tryz.func56 (by kernel_rfl) rfl
theorem EN_59 : Enters Tryz.prog 59 := enters_of Tryz.func59 (by kernel_rfl) rfl
theorem EN_63 : Enters Tryz.prog 63 := enters_of Tryz.func63 (by kernel_rfl) rfl
theorem FA_39_0 : FA Tryz.prog 39 0 0 := fun ad w => by simp [Instr.fieldAt, run_underlying Tryz.underlying39, Instr.sureAddr, fieldPlace, Tryz.sizeOf3]
theorem FA_39_1 : FA Tryz.prog 39 1 1 := fun ad w => by simp [Instr.fieldAt, run_underlying Tryz.underlying39, Instr.sureAddr, fieldPlace, Tryz.sizeOf3]
theorem FA_42_0 : FA Tryz.prog 42 0 0 := fun ad w => by simp [Instr.fieldAt, run_underlying Tryz.underlying42, Instr.sureAddr, fieldPlace, Tryz.sizeOf39]
theorem FA_42_3 : FA Tryz.prog 42 3 5 := fun ad w => by simp [Instr.fieldAt, run_underlying Tryz.underlying42, Instr.sureAddr, fieldPlace, Tryz.sizeOf21]
theorem NA_21 : NA Tryz.prog 21 := ⟨Tryz.isAgg21, Tryz.sizeOf21⟩
theorem NA_3 : NA Tryz.prog 3 := ⟨Tryz.isAgg3, Tryz.sizeOf3⟩
theorem ST_23 : ST Tryz.prog 23 42 6 := ⟨Tryz.underlying23, Tryz.sizeOf42⟩
theorem ST_63 : ST Tryz.prog 63 21 1 := ⟨Tryz.underlying63, Tryz.sizeOf21⟩
theorem ZT_39 : ZT Tryz.prog 39 (.agg #[.int .i64 0, .int .i64 0]) 2 16 := by unfold ZT; kernel_rfl
theorem ZT_42 : ZT Tryz.prog 42 (.agg #[.int .i64 0, .int .i64 0, .int .i64 0, .int .i64 0, .int .i64 0, .int .i32 0]) 6 48 := by unfold ZT; kernel_rfl

set_option maxRecDepth 20000 in
/-- redpencil/redpencilref15.Replace -/
theorem jreplaceF (l : List Nd) (A : Option Addr) (cap : Nat) (w : World) (hS : SlN w A l) (hl : l.length ≤ 100000) (d : Dot) (a n : Int) (r : List Int) (A' : Option Addr) (cap' : Nat) (hR : SlR w A' r) (hr : r.length ≤ 100000) : Ct Tryz.prog 40 #[.slice A l.length cap, dv d, .int .i64 a, .int .i64 n, .slice A' r.length cap'] [] w (fun u hs => ∃ B c, u = .tuple #[.slice B (replaceR l d a n r).1.length c, .int .i64 (replaceR l d a n r).2] ∧ hs = [En.row B (replaceR l d a n r).1.length c 42 6 ((replaceR l d a n r).1.flatMap nc)]) := by
  refine Ct.intro Tryz.func40 rfl Tryz.ntmps40 rfl ?_
  refine WA.seq ?_
  refine WA.region ?_
  refine WR.dw (G0 rfl) rfl rfl (.box (vs := [_, _]) rfl rfl rfl) ?_
  rintro _ _ ⟨b2, rfl, rfl⟩
  refine WR.val (G0 rfl) rfl rfl (.assign rfl rfl) ?_
  refine WR.val (G0 rfl) rfl rfl (.assign rfl rfl) ?_
  refine WR.nil ?_
  refine WA.seq ?_
  refine WA.seq ?_
  refine WA.region ?_
  refine WR.val (G0 rfl) rfl rfl (.move rfl rfl) ?_
  refine WR.dw (G0 rfl) rfl rfl (.callv (caps := []) rfl rfl rfl EN_63 (fun w hw => jwellF _ _ _ _ (hw.slf0 hS) (by first | omega | (simp; omega)))) ?_
  rintro _ _ ⟨rfl, rfl⟩
  refine WR.val (G0 rfl) rfl rfl (.not rfl rfl) ?_
  refine WR.val (G0 rfl) rfl rfl (.move rfl rfl) ?_
  refine WR.split (d := 23) rfl (fun h5 => ?_) (fun h5 => ?_)
  · have f6 := h5
    try simp only [decide_eq_true_eq, decide_eq_false_iff_not, Bool.not_eq_true', Bool.not_eq_false', Int.not_lt, Int.not_le] at f6
    refine WR.off (Gf rfl rfl rfl h5) rfl rfl ?_
    refine WR.off (Gf rfl rfl rfl h5) rfl rfl ?_
    refine WR.off (Gf rfl rfl rfl h5) rfl rfl ?_
    refine WR.val (G0 rfl) rfl rfl (.pick_t rfl rfl h5 rfl) ?_
    refine WR.nil ?_
    refine WA.cond_t rfl rfl ?_
    refine WA.seq ?_
    refine WA.region ?_
    refine WR.val (G0 rfl) rfl rfl (.assign rfl rfl) ?_
    refine WR.val (G0 rfl) rfl rfl (.assign rfl rfl) ?_
    refine WR.nil ?_
    have hE : replaceR l d a n r = ([], 2) := by
      unfold replaceR; rw [if_pos (by simp_all)]
    rw [hE]
    refine WA.nilrow 42 6 ?_
    exact WA.ret2 rfl rfl rfl (List.singleton_sublist.2 (List.mem_cons_self ..)) ⟨none, 0, rfl, rfl⟩
  · have f7 := h5
    try simp only [decide_eq_true_eq, decide_eq_false_iff_not, Bool.not_eq_true', Bool.not_eq_false', Int.not_lt, Int.not_le] at f7
    refine WR.val (Gt rfl rfl rfl h5) rfl rfl (.loadK (vs := [_, _]) rfl AG_39 rfl (fun _ hw => hw.rd_blk (k := 2) 0 rfl rfl)) ?_
    refine WR.dw (Gt rfl rfl rfl h5) rfl rfl (.callv (caps := []) rfl rfl rfl EN_112 (fun w hw => jisdotF _ w)) ?_
    rintro _ _ ⟨rfl, rfl⟩
    refine WR.val (Gt rfl rfl rfl h5) rfl rfl (.not rfl rfl) ?_
    refine WR.val (G0 rfl) rfl rfl (.pick_f rfl rfl h5 rfl) ?_
    refine WR.nil ?_
    refine WA.cond rfl (fun h10 => ?_) (fun h10 => ?_)
    · have f11 := h10
      try simp only [decide_eq_true_eq, decide_eq_false_iff_not, Bool.not_eq_true', Bool.not_eq_false', Int.not_lt, Int.not_le] at f11
      refine WA.seq ?_
      refine WA.region ?_
      refine WR.val (G0 rfl) rfl rfl (.assign rfl rfl) ?_
      refine WR.val (G0 rfl) rfl rfl (.assign rfl rfl) ?_
      refine WR.nil ?_
      have hE : replaceR l d a n r = ([], 2) := by
        unfold replaceR; rw [if_pos (by simp_all)]
      rw [hE]
      refine WA.nilrow 42 6 ?_
      exact WA.ret2 rfl rfl rfl (List.singleton_sublist.2 (List.mem_cons_self ..)) ⟨none, 0, rfl, rfl⟩
    · have f12 := h10
      try simp only [decide_eq_true_eq, decide_eq_false_iff_not, Bool.not_eq_true', Bool.not_eq_false', Int.not_lt, Int.not_le] at f12
      refine WA.skip ?_
      refine WA.seq ?_
      have hwl : well l = true := by simp_all
      have hdv : dvalid d = true := by simp_all
      have hok := well_store hwl
      have hvl := visN_len hok
      have hdv' := hdv
      simp only [dvalid, decide_eq_true_eq] at hdv'
      have hm0 := maxTime_nonneg l
      have hm1 := maxTime_valid hok
      refine WA.region ?_
      refine WR.val (G0 rfl) rfl rfl (.move rfl rfl) ?_
      refine WR.dw (G0 rfl) rfl rfl (.call0 (caps := []) rfl rfl rfl EN_113 (fun w hw => jvisibleF l _ _ _ (hw.slf0 hS) (by omega) hok)) ?_
      rintro _ _ ⟨_, ⟨v14, v15, rfl, rfl⟩, rfl⟩
      refine WR.val (G0 rfl) rfl rfl (.assign rfl rfl) ?_
      refine WR.nil ?_
      refine WA.seq ?_
      refine WA.seq ?_
      refine WA.region ?_
      refine WR.val (G0 rfl) rfl rfl (.move rfl rfl) ?_
      refine WR.val (G0 rfl) rfl rfl (.lss rfl rfl rfl) ?_
      refine WR.val (G0 rfl) rfl rfl (.move rfl rfl) ?_
      refine WR.split (d := 32) rfl (fun h17 => ?_) (fun h17 => ?_)
      · have f18 := h17
        try simp only [decide_eq_true_eq, decide_eq_false_iff_not, Bool.not_eq_true', Bool.not_eq_false', Int.not_lt, Int.not_le] at f18
        refine WR.off (Gf rfl rfl rfl h17) rfl rfl ?_
        refine WR.off (Gf rfl rfl rfl h17) rfl rfl ?_
        refine WR.off (Gf rfl rfl rfl h17) rfl rfl ?_
        refine WR.off (Gf rfl rfl rfl h17) rfl rfl ?_
        refine WR.val (G0 rfl) rfl rfl (.pick_t rfl rfl h17 rfl) ?_
        refine WR.val (G0 rfl) rfl rfl (.move rfl rfl) ?_
        refine WR.off (Gf rfl rfl rfl rfl) rfl rfl ?_
        refine WR.off (Gf rfl rfl rfl rfl) rfl rfl ?_
        refine WR.val (G0 rfl) rfl rfl (.pick_t rfl rfl rfl rfl) ?_
        refine WR.val (G0 rfl) rfl rfl (.move rfl rfl) ?_
        refine WR.off (Gf rfl rfl rfl rfl) rfl rfl ?_
        refine WR.off (Gf rfl rfl rfl rfl) rfl rfl ?_
        refine WR.off (Gf rfl rfl rfl rfl) rfl rfl ?_
        refine WR.off (Gf rfl rfl rfl rfl) rfl rfl ?_
        refine WR.off (Gf rfl rfl rfl rfl) rfl rfl ?_
        refine WR.off (Gf rfl rfl rfl rfl) rfl rfl ?_
        refine WR.val (G0 rfl) rfl rfl (.pick_t rfl rfl rfl rfl) ?_
        refine WR.nil ?_
        refine WA.cond_t rfl rfl ?_
        refine WA.seq ?_
        refine WA.region ?_
        refine WR.val (G0 rfl) rfl rfl (.assign rfl rfl) ?_
        refine WR.val (G0 rfl) rfl rfl (.assign rfl rfl) ?_
        refine WR.nil ?_
        have hE : replaceR l d a n r = ([], 3) := by
          have hs3 : spanR l a n = 3 := by rw [spanR_cases l a n hwl, if_neg (by omega)]
          unfold replaceR; rw [if_neg (by simp [hwl, hdv]), if_pos (by simp [hs3]), hs3]
        rw [hE]
        refine WA.nilrow 42 6 ?_
        exact WA.ret2 rfl rfl rfl (List.singleton_sublist.2 (List.mem_cons_self ..)) ⟨none, 0, rfl, rfl⟩
      · have f19 := h17
        try simp only [decide_eq_true_eq, decide_eq_false_iff_not, Bool.not_eq_true', Bool.not_eq_false', Int.not_lt, Int.not_le] at f19
        refine WR.val (Gt rfl rfl rfl h17) rfl rfl (.move rfl rfl) ?_
        refine WR.val (Gt rfl rfl rfl h17) rfl rfl (.move rfl rfl) ?_
        refine WR.val (Gt rfl rfl rfl h17) rfl rfl (.len rfl ST_23.1 rfl) ?_
        refine WR.val (Gt rfl rfl rfl h17) rfl rfl (.gtr rfl rfl rfl) ?_
        refine WR.val (G0 rfl) rfl rfl (.pick_f rfl rfl h17 rfl) ?_
        refine WR.val (G0 rfl) rfl rfl (.move rfl rfl) ?_
        refine WR.split (d := 38) rfl (fun h21 => ?_) (fun h21 => ?_)
        · have f22 := h21
          try simp only [decide_eq_true_eq, decide_eq_false_iff_not, Bool.not_eq_true', Bool.not_eq_false', Int.not_lt, Int.not_le] at f22
          refine WR.off (Gf rfl rfl rfl h21) rfl rfl ?_
          refine WR.off (Gf rfl rfl rfl h21) rfl rfl ?_
          refine WR.val (G0 rfl) rfl rfl (.pick_t rfl rfl h21 rfl) ?_
          refine WR.val (G0 rfl) rfl rfl (.move rfl rfl) ?_
          refine WR.off (Gf rfl rfl rfl rfl) rfl rfl ?_
          refine WR.off (Gf rfl rfl rfl rfl) rfl rfl ?_
          refine WR.off (Gf rfl rfl rfl rfl) rfl rfl ?_
          refine WR.off (Gf rfl rfl rfl rfl) rfl rfl ?_
          refine WR.off (Gf rfl rfl rfl rfl) rfl rfl ?_
          refine WR.off (Gf rfl rfl rfl rfl) rfl rfl ?_
          refine WR.val (G0 rfl) rfl rfl (.pick_t rfl rfl rfl rfl) ?_
          refine WR.nil ?_
          refine WA.cond_t rfl rfl ?_
          refine WA.seq ?_
          refine WA.region ?_
          refine WR.val (G0 rfl) rfl rfl (.assign rfl rfl) ?_
          refine WR.val (G0 rfl) rfl rfl (.assign rfl rfl) ?_
          refine WR.nil ?_
          have hE : replaceR l d a n r = ([], 3) := by
            have hs3 : spanR l a n = 3 := by rw [spanR_cases l a n hwl, if_neg (by omega)]
            unfold replaceR; rw [if_neg (by simp [hwl, hdv]), if_pos (by simp [hs3]), hs3]
          rw [hE]
          refine WA.nilrow 42 6 ?_
          exact WA.ret2 rfl rfl rfl (List.singleton_sublist.2 (List.mem_cons_self ..)) ⟨none, 0, rfl, rfl⟩
        · have f23 := h21
          try simp only [decide_eq_true_eq, decide_eq_false_iff_not, Bool.not_eq_true', Bool.not_eq_false', Int.not_lt, Int.not_le] at f23
          refine WR.val (Gt rfl rfl rfl h21) rfl rfl (.move rfl rfl) ?_
          refine WR.val (Gt rfl rfl rfl h21) rfl rfl (.lss rfl rfl rfl) ?_
          refine WR.val (G0 rfl) rfl rfl (.pick_f rfl rfl h21 rfl) ?_
          refine WR.val (G0 rfl) rfl rfl (.move rfl rfl) ?_
          refine WR.split (d := 42) rfl (fun h25 => ?_) (fun h25 => ?_)
          · have f26 := h25
            try simp only [decide_eq_true_eq, decide_eq_false_iff_not, Bool.not_eq_true', Bool.not_eq_false', Int.not_lt, Int.not_le] at f26
            refine WR.off (Gf rfl rfl rfl h25) rfl rfl ?_
            refine WR.off (Gf rfl rfl rfl h25) rfl rfl ?_
            refine WR.off (Gf rfl rfl rfl h25) rfl rfl ?_
            refine WR.off (Gf rfl rfl rfl h25) rfl rfl ?_
            refine WR.off (Gf rfl rfl rfl h25) rfl rfl ?_
            refine WR.off (Gf rfl rfl rfl h25) rfl rfl ?_
            refine WR.val (G0 rfl) rfl rfl (.pick_t rfl rfl h25 rfl) ?_
            refine WR.nil ?_
            refine WA.cond_t rfl rfl ?_
            refine WA.seq ?_
            refine WA.region ?_
            refine WR.val (G0 rfl) rfl rfl (.assign rfl rfl) ?_
            refine WR.val (G0 rfl) rfl rfl (.assign rfl rfl) ?_
            refine WR.nil ?_
            have hE : replaceR l d a n r = ([], 3) := by
              have hs3 : spanR l a n = 3 := by rw [spanR_cases l a n hwl, if_neg (by omega)]
              unfold replaceR; rw [if_neg (by simp [hwl, hdv]), if_pos (by simp [hs3]), hs3]
            rw [hE]
            refine WA.nilrow 42 6 ?_
            exact WA.ret2 rfl rfl rfl (List.singleton_sublist.2 (List.mem_cons_self ..)) ⟨none, 0, rfl, rfl⟩
          · have f27 := h25
            try simp only [decide_eq_true_eq, decide_eq_false_iff_not, Bool.not_eq_true', Bool.not_eq_false', Int.not_lt, Int.not_le] at f27
            refine WR.val (Gt rfl rfl rfl h25) rfl rfl (.move rfl rfl) ?_
            refine WR.val (Gt rfl rfl rfl h25) rfl rfl (.move rfl rfl) ?_
            refine WR.val (Gt rfl rfl rfl h25) rfl rfl (.len rfl ST_23.1 rfl) ?_
            refine WR.val (Gt rfl rfl rfl h25) rfl rfl (.move rfl rfl) ?_
            refine WR.val (Gt rfl rfl rfl h25) rfl rfl (.sub rfl rfl rfl (by omega) (by omega)) ?_
            refine WR.val (Gt rfl rfl rfl h25) rfl rfl (.gtr rfl rfl rfl) ?_
            refine WR.val (G0 rfl) rfl rfl (.pick_f rfl rfl h25 rfl) ?_
            refine WR.nil ?_
            refine WA.cond rfl (fun h29 => ?_) (fun h29 => ?_)
            · have f30 := h29
              try simp only [decide_eq_true_eq, decide_eq_false_iff_not, Bool.not_eq_true', Bool.not_eq_false', Int.not_lt, Int.not_le] at f30
              refine WA.seq ?_
              refine WA.region ?_
              refine WR.val (G0 rfl) rfl rfl (.assign rfl rfl) ?_
              refine WR.val (G0 rfl) rfl rfl (.assign rfl rfl) ?_
              refine WR.nil ?_
              have hE : replaceR l d a n r = ([], 3) := by
                have hs3 : spanR l a n = 3 := by rw [spanR_cases l a n hwl, if_neg (by omega)]
                unfold replaceR; rw [if_neg (by simp [hwl, hdv]), if_pos (by simp [hs3]), hs3]
              rw [hE]
              refine WA.nilrow 42 6 ?_
              exact WA.ret2 rfl rfl rfl (List.singleton_sublist.2 (List.mem_cons_self ..)) ⟨none, 0, rfl, rfl⟩
            · have f31 := h29
              try simp only [decide_eq_true_eq, decide_eq_false_iff_not, Bool.not_eq_true', Bool.not_eq_false', Int.not_lt, Int.not_le] at f31
              refine WA.skip ?_
              refine WA.seq ?_
              refine WA.seq ?_
              have hz : spanR l a n = 0 := by rw [spanR_cases l a n hwl, if_pos ⟨by omega, by omega, by omega, by omega⟩]
              obtain ⟨_, ha0, hn0, hav, hnv⟩ := spanR_zero hz
              refine WA.region ?_
              refine WR.val (G0 rfl) rfl rfl (.move rfl rfl) ?_
              refine WR.val (G0 rfl) rfl rfl (.len rfl ST_63.1 rfl) ?_
              refine WR.val (G0 rfl) rfl rfl (.gtr rfl rfl rfl) ?_
              refine WR.val (G0 rfl) rfl rfl (.move rfl rfl) ?_
              refine WR.split (d := 53) rfl (fun h33 => ?_) (fun h33 => ?_)
              · have f34 := h33
                try simp only [decide_eq_true_eq, decide_eq_false_iff_not, Bool.not_eq_true', Bool.not_eq_false', Int.not_lt, Int.not_le] at f34
                refine WR.off (Gf rfl rfl rfl h33) rfl rfl ?_
                refine WR.off (Gf rfl rfl rfl h33) rfl rfl ?_
                refine WR.val (G0 rfl) rfl rfl (.pick_t rfl rfl h33 rfl) ?_
                refine WR.nil ?_
                refine WA.cond_t rfl rfl ?_
                refine WA.seq ?_
                refine WA.region ?_
                refine WR.val (G0 rfl) rfl rfl (.assign rfl rfl) ?_
                refine WR.val (G0 rfl) rfl rfl (.assign rfl rfl) ?_
                refine WR.nil ?_
                have hE : replaceR l d a n r = ([], 5) := by
                  unfold replaceR; rw [if_neg (by simp [hwl, hdv]), if_neg (by simp [hz]), if_pos (by omega)]
                rw [hE]
                refine WA.nilrow 42 6 ?_
                exact WA.ret2 rfl rfl rfl (List.singleton_sublist.2 (List.mem_cons_self ..)) ⟨none, 0, rfl, rfl⟩
              · have f35 := h33
                try simp only [decide_eq_true_eq, decide_eq_false_iff_not, Bool.not_eq_true', Bool.not_eq_false', Int.not_lt, Int.not_le] at f35
                refine WR.val (Gt rfl rfl rfl h33) rfl rfl (.move rfl rfl) ?_
                refine WR.val (Gt rfl rfl rfl h33) rfl rfl (.gtr rfl rfl rfl) ?_
                refine WR.val (G0 rfl) rfl rfl (.pick_f rfl rfl h33 rfl) ?_
                refine WR.nil ?_
                refine WA.cond rfl (fun h37 => ?_) (fun h37 => ?_)
                · have f38 := h37
                  try simp only [decide_eq_true_eq, decide_eq_false_iff_not, Bool.not_eq_true', Bool.not_eq_false', Int.not_lt, Int.not_le] at f38
                  refine WA.seq ?_
                  refine WA.region ?_
                  refine WR.val (G0 rfl) rfl rfl (.assign rfl rfl) ?_
                  refine WR.val (G0 rfl) rfl rfl (.assign rfl rfl) ?_
                  refine WR.nil ?_
                  have hE : replaceR l d a n r = ([], 5) := by
                    unfold replaceR; rw [if_neg (by simp [hwl, hdv]), if_neg (by simp [hz]), if_pos (by omega)]
                  rw [hE]
                  refine WA.nilrow 42 6 ?_
                  exact WA.ret2 rfl rfl rfl (List.singleton_sublist.2 (List.mem_cons_self ..)) ⟨none, 0, rfl, rfl⟩
                · have f39 := h37
                  try simp only [decide_eq_true_eq, decide_eq_false_iff_not, Bool.not_eq_true', Bool.not_eq_false', Int.not_lt, Int.not_le] at f39
                  refine WA.skip ?_
                  refine WA.seq ?_
                  refine WA.seq ?_
                  have hn5 : ¬ (10000 < n ∨ 10000 < r.length) := by omega
                  refine WA.region ?_
                  refine WR.val (G0 rfl) rfl rfl (.assign rfl rfl) ?_
                  refine WR.nil ?_
                  refine WA.block ?_
                  refine WA.loopK (γ := Nat) [(0, _), (2, _), (3, _), (4, _), (6, _), (12, _)] [_, _] (fun k => [(13, .int .i64 (k : Int))]) (fun k => []) (fun k => k ≤ r.length ∧ ∀ j : Nat, j < k → rvalid (gx r (j : Int)) = true) (fun k => r.length - k) 0 (.cons rfl (.cons rfl (.cons rfl (.cons rfl (.cons rfl (.cons rfl (.nil _))))))) (.cons rfl (.nil _)) (.refl _) ⟨by omega, fun _ h => absurd h (by omega)⟩ ?_
                  intro k hk
                  obtain ⟨hk, hd⟩ := hk
                  refine WA.seq ?_
                  refine WA.seq ?_
                  refine WA.region ?_
                  refine WR.val (G0 rfl) rfl rfl (.move rfl rfl) ?_
                  refine WR.val (G0 rfl) rfl rfl (.move rfl rfl) ?_
                  refine WR.val (G0 rfl) rfl rfl (.len rfl ST_63.1 rfl) ?_
                  refine WR.val (G0 rfl) rfl rfl (.lss rfl rfl rfl) ?_
                  refine WR.nil ?_
                  refine WA.cond rfl (fun h41 => ?_) (fun h41 => ?_)
                  · have f42 := h41
                    try simp only [decide_eq_true_eq, decide_eq_false_iff_not, Bool.not_eq_true', Bool.not_eq_false', Int.not_lt, Int.not_le] at f42
                    refine WA.skip ?_
                    refine WA.seq ?_
                    refine WA.block ?_
                    refine WA.seq ?_
                    refine WA.region ?_
                    refine WR.val (G0 rfl) rfl rfl (.move rfl rfl) ?_
                    refine WR.val (G0 rfl) rfl rfl (.move rfl rfl) ?_
                    refine WR.val (G0 rfl) rfl rfl (.ix rfl ST_63 rfl rfl (by omega) (by omega) (fun _ hw hn => (hw.slf0 hR).some_ hn)) ?_
                    refine WR.val (G0 rfl) rfl rfl (.load1 rfl NA_21 rfl (fun _ hw => rdR (hw.slf0 hR) (by omega) (by omega))) ?_
                    refine WR.dw (G0 rfl) rfl rfl (.callv (caps := []) rfl rfl rfl EN_59 (fun w hw => jisruneF _ w)) ?_
                    rintro _ _ ⟨rfl, rfl⟩
                    refine WR.val (G0 rfl) rfl rfl (.not rfl rfl) ?_
                    refine WR.nil ?_
                    refine WA.cond rfl (fun h45 => ?_) (fun h45 => ?_)
                    · have f46 := h45
                      try simp only [decide_eq_true_eq, decide_eq_false_iff_not, Bool.not_eq_true', Bool.not_eq_false', Int.not_lt, Int.not_le] at f46
                      refine WA.seq ?_
                      refine WA.region ?_
                      refine WR.val (G0 rfl) rfl rfl (.assign rfl rfl) ?_
                      refine WR.val (G0 rfl) rfl rfl (.assign rfl rfl) ?_
                      refine WR.nil ?_
                      have hE : replaceR l d a n r = ([], 13) := by
                        unfold replaceR; rw [if_neg (by simp [hwl, hdv]), if_neg (by simp [hz]), if_neg hn5, if_pos (List.any_eq_true.2 ⟨gx r (k : Int), gx_mem (by omega) (by omega), by simp_all⟩)]
                      rw [hE]
                      refine WA.nilrow 42 6 ?_
                      exact WA.ret2 rfl rfl rfl (List.singleton_sublist.2 (List.mem_cons_self ..)) ⟨none, 0, rfl, rfl⟩
                    · have f47 := h45
                      try simp only [decide_eq_true_eq, decide_eq_false_iff_not, Bool.not_eq_true', Bool.not_eq_false', Int.not_lt, Int.not_le] at f47
                      refine WA.skip ?_
                      refine WA.mark ?_
                      refine WA.region ?_
                      refine WR.val (G0 rfl) rfl rfl (.move rfl rfl) ?_
                      refine WR.val (G0 rfl) rfl rfl (.add rfl rfl rfl (by omega) (by omega)) ?_
                      refine WR.val (G0 rfl) rfl rfl (.assign rfl rfl) ?_
                      refine WR.nil ?_
                      exact WA.roundK (k + 1) (.cons rfl (.cons rfl (.cons rfl (.cons rfl (.cons rfl (.cons rfl (.nil _))))))) (.cons rfl (.nil _)) (.refl _) ⟨by omega, lt_snoc hd (by simp_all)⟩ (by omega)
                  · have f48 := h41
                    try simp only [decide_eq_true_eq, decide_eq_false_iff_not, Bool.not_eq_true', Bool.not_eq_false', Int.not_lt, Int.not_le] at f48
                    refine WA.exit rfl ?_
                    refine WA.seq ?_
                    refine WA.seq ?_
                    have hod : ¬ r.any (fun x => !rvalid x) = true := by
                      rw [List.any_eq_true]
                      rintro ⟨x, hx, hv⟩
                      obtain ⟨i, hi, rfl⟩ := List.getElem_of_mem hx
                      have h9 := hd i (by omega)
                      rw [gx_nat r i hi] at h9
                      simp [h9] at hv
                    refine WA.region ?_
                    refine WR.val (G0 rfl) rfl rfl (.move rfl rfl) ?_
                    refine WR.val (G0 rfl) rfl rfl (.len rfl ST_63.1 rfl) ?_
                    refine WR.val (G0 rfl) rfl rfl (.fa rfl FA_39_1 rfl) ?_
                    refine WR.val (G0 rfl) rfl rfl (.load1 rfl NA_3 rfl (fun _ hw => hw.rd_blk (k := 1) 1 rfl rfl)) ?_
                    refine WR.val (G0 rfl) rfl rfl (.sub rfl rfl rfl (by omega) (by omega)) ?_
                    refine WR.val (G0 rfl) rfl rfl (.add rfl rfl rfl (by omega) (by omega)) ?_
                    refine WR.val (G0 rfl) rfl rfl (.gtr rfl rfl rfl) ?_
                    refine WR.val (G0 rfl) rfl rfl (.move rfl rfl) ?_
                    refine WR.split (d := 76) rfl (fun h50 => ?_) (fun h50 => ?_)
                    · have f51 := h50
                      try simp only [decide_eq_true_eq, decide_eq_false_iff_not, Bool.not_eq_true', Bool.not_eq_false', Int.not_lt, Int.not_le] at f51
                      refine WR.off (Gf rfl rfl rfl h50) rfl rfl ?_
                      refine WR.off (Gf rfl rfl rfl h50) rfl rfl ?_
                      refine WR.off (Gf rfl rfl rfl h50) rfl rfl ?_
                      refine WR.off (Gf rfl rfl rfl h50) rfl rfl ?_
                      refine WR.off (Gf rfl rfl rfl h50) rfl rfl ?_
                      refine WR.off (Gf rfl rfl rfl h50) rfl rfl ?_
                      refine WR.val (G0 rfl) rfl rfl (.pick_t rfl rfl h50 rfl) ?_
                      refine WR.nil ?_
                      refine WA.cond_t rfl rfl ?_
                      refine WA.seq ?_
                      refine WA.region ?_
                      refine WR.val (G0 rfl) rfl rfl (.assign rfl rfl) ?_
                      refine WR.val (G0 rfl) rfl rfl (.assign rfl rfl) ?_
                      refine WR.nil ?_
                      have hE : replaceR l d a n r = ([], 14) := by
                        unfold replaceR; rw [if_neg (by simp [hwl, hdv]), if_neg (by simp [hz]), if_neg hn5, if_neg hod, if_pos (by omega)]
                      rw [hE]
                      refine WA.nilrow 42 6 ?_
                      exact WA.ret2 rfl rfl rfl (List.singleton_sublist.2 (List.mem_cons_self ..)) ⟨none, 0, rfl, rfl⟩
                    · have f52 := h50
                      try simp only [decide_eq_true_eq, decide_eq_false_iff_not, Bool.not_eq_true', Bool.not_eq_false', Int.not_lt, Int.not_le] at f52
                      refine WR.val (Gt rfl rfl rfl h50) rfl rfl (.move rfl rfl) ?_
                      refine WR.val (Gt rfl rfl rfl h50) rfl rfl (.len rfl ST_63.1 rfl) ?_
                      refine WR.val (Gt rfl rfl rfl h50) rfl rfl (.move rfl rfl) ?_
                      refine WR.dw (Gt rfl rfl rfl h50) rfl rfl (.callv (caps := []) rfl rfl rfl EN_52 (fun w hw => jlatestOkF l _ _ _ (hw.slf0 hS) (by omega) hok)) ?_
                      rintro _ _ ⟨rfl, rfl⟩
                      refine WR.val (Gt rfl rfl rfl h50) rfl rfl (.sub rfl rfl rfl (by omega) (by omega)) ?_
                      refine WR.val (Gt rfl rfl rfl h50) rfl rfl (.gtr rfl rfl rfl) ?_
                      refine WR.val (G0 rfl) rfl rfl (.pick_f rfl rfl h50 rfl) ?_
                      refine WR.nil ?_
                      refine WA.cond rfl (fun h54 => ?_) (fun h54 => ?_)
                      · have f55 := h54
                        try simp only [decide_eq_true_eq, decide_eq_false_iff_not, Bool.not_eq_true', Bool.not_eq_false', Int.not_lt, Int.not_le] at f55
                        refine WA.seq ?_
                        refine WA.region ?_
                        refine WR.val (G0 rfl) rfl rfl (.assign rfl rfl) ?_
                        refine WR.val (G0 rfl) rfl rfl (.assign rfl rfl) ?_
                        refine WR.nil ?_
                        have hE : replaceR l d a n r = ([], 14) := by
                          unfold replaceR; rw [if_neg (by simp [hwl, hdv]), if_neg (by simp [hz]), if_neg hn5, if_neg hod, if_pos (by omega)]
                        rw [hE]
                        refine WA.nilrow 42 6 ?_
                        exact WA.ret2 rfl rfl rfl (List.singleton_sublist.2 (List.mem_cons_self ..)) ⟨none, 0, rfl, rfl⟩
                      · have f56 := h54
                        try simp only [decide_eq_true_eq, decide_eq_false_iff_not, Bool.not_eq_true', Bool.not_eq_false', Int.not_lt, Int.not_le] at f56
                        refine WA.skip ?_
                        refine WA.seq ?_
                        have hex : ¬ (4294967295 - (r.length : Int) + 1 < d.c ∨ 4611686018427387904 - (r.length : Int) < maxTime l) := by omega
                        have hcl : (cutN l a n).length = n.toNat := by rw [cutN_len]; omega
                        refine WA.region ?_
                        refine WR.val (G0 rfl) rfl rfl (.assign rfl rfl) ?_
                        refine WR.nilrow 42 6 ?_
                        refine WR.nil ?_
                        refine WA.seq ?_
                        refine WA.seq ?_
                        refine WA.region ?_
                        refine WR.val (G0 rfl) rfl rfl (.move rfl rfl) ?_
                        refine WR.val (G0 rfl) rfl rfl (.assign rfl rfl) ?_
                        refine WR.nil ?_
                        refine WA.block ?_
                        refine WA.loopK (γ := Nat × Option Addr × Nat) [(0, _), (2, _), (3, _), (4, _), (6, _), (12, _)] [_, _] (fun q => [(14, .slice q.2.1 (gjn [] ((cutN l a n).take q.1)).length q.2.2), (15, .int .i64 (a + (q.1 : Int)))]) (fun q => [En.row q.2.1 (gjn [] ((cutN l a n).take q.1)).length q.2.2 42 6 ((gjn [] ((cutN l a n).take q.1)).flatMap nc)]) (fun q => q.1 ≤ (cutN l a n).length) (fun q => (cutN l a n).length - q.1) (0, none, 0) (.cons rfl (.cons rfl (.cons rfl (.cons rfl (.cons rfl (.cons rfl (.nil _))))))) (.cons rfl (.cons (Eq.trans (b := some (.int .i64 a)) rfl (by simp)) (.nil _))) (.refl _) (by simp) ?_
                        intro q hkq
                        refine WA.seq ?_
                        refine WA.seq ?_
                        refine WA.region ?_
                        refine WR.val (G0 rfl) rfl rfl (.move rfl rfl) ?_
                        refine WR.val (G0 rfl) rfl rfl (.move rfl rfl) ?_
                        refine WR.val (G0 rfl) rfl rfl (.move rfl rfl) ?_
                        refine WR.val (G0 rfl) rfl rfl (.add rfl rfl rfl (by omega) (by omega)) ?_
                        refine WR.val (G0 rfl) rfl rfl (.lss rfl rfl rfl) ?_
                        refine WR.nil ?_
                        refine WA.cond rfl (fun h59 => ?_) (fun h59 => ?_)
                        · have f60 := h59
                          try simp only [decide_eq_true_eq, decide_eq_false_iff_not, Bool.not_eq_true', Bool.not_eq_false', Int.not_lt, Int.not_le] at f60
                          refine WA.skip ?_
                          refine WA.seq ?_
                          refine WA.block ?_
                          refine WA.seq ?_
                          have hgl := gjn_len0 ((cutN l a n).take q.1)
                          have htl := List.length_take_le q.1 (cutN l a n)
                          refine WA.region ?_
                          refine WR.val (G0 rfl) rfl rfl (.move rfl rfl) ?_
                          refine WR.val (G0 rfl) rfl rfl (.move rfl rfl) ?_
                          refine WR.val (G0 rfl) rfl rfl (.ix rfl ST_23 rfl rfl (by omega) (by omega) (fun _ hw hn => (hw.slf_row 1 rfl).some_ hn)) ?_
                          refine WR.val (G0 rfl) rfl rfl (.loadK (vs := [_, _, _, _, _, _]) rfl AG_42 rfl (fun _ hw => rdN (hw.slf_row 1 rfl) (by omega) (by omega))) ?_
                          refine WR.dw (G0 rfl) rfl rfl (.alloc (vs := [_, _, _, _, _, _]) rfl ZT_42 rfl) ?_
                          rintro _ _ ⟨b62, rfl, rfl⟩
                          refine WR.dw0 (G0 rfl) rfl (.store (i := 0) rfl AG_42.2 rfl rfl [_, _, _, _, _, _] rfl rfl (by intro u hu; simp at hu; rcases hu with rfl | rfl | rfl | rfl | rfl | rfl <;> rfl) rfl rfl) ?_
                          rintro _ _ ⟨rfl, rfl⟩
                          refine WR.nil ?_
                          refine WA.seq ?_
                          refine WA.region ?_
                          refine WR.val (G0 rfl) rfl rfl (.fa rfl FA_42_3 rfl) ?_
                          refine WR.dw0 (G0 rfl) rfl (.store (i := 0) rfl NA_21.2 rfl rfl [_] rfl rfl (by intro u hu; simp at hu; subst hu; rfl) rfl rfl) ?_
                          rintro _ _ ⟨rfl, rfl⟩
                          refine WR.nil ?_
                          refine WA.region ?_
                          refine WR.val (G0 rfl) rfl rfl (.move rfl rfl) ?_
                          refine WR.val (G0 rfl) rfl rfl (.loadK (vs := [_, _, _, _, _, _]) rfl AG_42 rfl (fun _ hw => hw.rd_blk (k := 6) 0 rfl rfl)) ?_
                          refine WR.dw (G0 rfl) rfl rfl (.buildSlice (k := 6) (e := 42) (vs := [_, _, _, _, _, _]) rfl rfl rfl (fun _ => by kernel_rfl) rfl) ?_
                          rintro _ _ ⟨b64, rfl, rfl⟩
                          refine WR.dw (G0 rfl) rfl rfl (.call0 (caps := []) rfl rfl rfl EN_56 (fun w hw => jjoinF (gjn [] ((cutN l a n).take q.1)) [(kill (gx (visN l) (a + (q.1 : Int))))] _ _ _ _ _ (hw.slf_row 2 rfl) (hw.slf_blk 0 rfl rfl (by simp [maxLen])) (by omega) (by simp))) ?_
                          rintro _ _ ⟨_, ⟨v66, v67, rfl, rfl⟩, rfl⟩
                          refine WR.val (G0 rfl) rfl rfl (.assign rfl rfl) ?_
                          refine WR.nil ?_
                          refine WA.mark ?_
                          refine WA.region ?_
                          refine WR.val (G0 rfl) rfl rfl (.move rfl rfl) ?_
                          refine WR.val (G0 rfl) rfl rfl (.add rfl rfl rfl (by omega) (by omega)) ?_
                          refine WR.val (G0 rfl) rfl rfl (.assign rfl rfl) ?_
                          refine WR.nil ?_
                          have hgt : (gjn [] ((cutN l a n).take (q.1 + 1))) = gjn (gjn [] ((cutN l a n).take q.1)) [(kill (gx (visN l) (a + (q.1 : Int))))] := by rw [gjn_take (by omega), cutN_gx (by omega) (by omega) ha0]; rfl
                          rw [← hgt]
                          exact WA.roundK (q.1 + 1, v66, v67) (.cons rfl (.cons rfl (.cons rfl (.cons rfl (.cons rfl (.cons rfl (.nil _))))))) (.cons rfl (.cons (Eq.trans (b := some (.int .i64 (a + (q.1 : Int) + 1))) rfl (by congr 2; omega)) (.nil _))) (.cons_cons _ (.cons _ (.cons _ (.cons _ (.refl _))))) (by dsimp only; omega) (by dsimp only; omega)
                        · have f69 := h59
                          try simp only [decide_eq_true_eq, decide_eq_false_iff_not, Bool.not_eq_true', Bool.not_eq_false', Int.not_lt, Int.not_le] at f69
                          refine WA.exit rfl ?_
                          refine WA.seq ?_
                          refine WA.region ?_
                          refine WR.dw (G0 rfl) rfl rfl (.alloc (vs := [_, _]) rfl ZT_39 rfl) ?_
                          rintro _ _ ⟨b71, rfl, rfl⟩
                          refine WR.nil ?_
                          refine WA.seq ?_
                          refine WA.seq ?_
                          refine WA.region ?_
                          refine WR.val (G0 rfl) rfl rfl (.move rfl rfl) ?_
                          refine WR.val (G0 rfl) rfl rfl (.gtr rfl rfl rfl) ?_
                          refine WR.nil ?_
                          refine WA.cond rfl (fun h73 => ?_) (fun h73 => ?_)
                          · have f74 := h73
                            try simp only [decide_eq_true_eq, decide_eq_false_iff_not, Bool.not_eq_true', Bool.not_eq_false', Int.not_lt, Int.not_le] at f74
                            refine WA.region ?_
                            refine WR.val (G0 rfl) rfl rfl (.move rfl rfl) ?_
                            refine WR.val (G0 rfl) rfl rfl (.move rfl rfl) ?_
                            refine WR.val (G0 rfl) rfl rfl (.sub rfl rfl rfl (by omega) (by omega)) ?_
                            refine WR.val (G0 rfl) rfl rfl (.ix rfl ST_23 rfl rfl (by omega) (by omega) (fun _ hw hn => (hw.slf_row 2 rfl).some_ hn)) ?_
                            refine WR.val (G0 rfl) rfl rfl (.fe rfl FA_42_0 rfl) ?_
                            refine WR.val (G0 rfl) rfl rfl (.loadK (vs := [_, _]) rfl AG_39 rfl (fun _ hw => Rd.el (off := 0) (k := 2) (rdN (hw.slf_row 2 rfl) (by omega) (by omega)) rfl)) ?_
                            refine WR.dw0 (G0 rfl) rfl (.store (i := 0) rfl AG_39.2 rfl rfl [_, _] rfl rfl (by intro u hu; simp at hu; rcases hu with rfl | rfl <;> rfl) rfl rfl) ?_
                            rintro _ _ ⟨rfl, rfl⟩
                            refine WR.nil ?_
                            refine WA.seq ?_
                            refine WA.seq ?_
                            refine WA.blkeq 0 rfl (dc (chainN d (parR l a) (maxTime l + 1) r 0).p) (by first | (simp only [chainN, parR, if_true]; rw [if_neg (by omega)]; rfl) | (simp only [chainN, parR, if_true]; rw [if_pos (by omega)]; rfl)) ?_
                            have hg : (gjn [] ((cutN l a n).take q.1)) = (gjn [] (cutN l a n)) := by rw [List.take_of_length_le (by omega)]
                            rw [hg]
                            have hgl := gjn_len0 (cutN l a n)
                            refine WA.region ?_
                            refine WR.val (G0 rfl) rfl rfl (.assign rfl rfl) ?_
                            refine WR.nil ?_
                            refine WA.block ?_
                            refine WA.front 0 rfl ?_
                            refine WA.front 1 rfl ?_
                            refine WA.loopK (γ := Nat × Option Addr × Nat) [(0, _), (4, _), (6, _), (17, _)] [_, _] (fun k => [(14, .slice k.2.1 (gjn (gjn [] (cutN l a n)) ((chainF d (parR l a) (maxTime l + 1) r).take k.1)).length k.2.2), (18, .int .i64 (k.1 : Int))]) (fun k => [En.row k.2.1 (gjn (gjn [] (cutN l a n)) ((chainF d (parR l a) (maxTime l + 1) r).take k.1)).length k.2.2 42 6 ((gjn (gjn [] (cutN l a n)) ((chainF d (parR l a) (maxTime l + 1) r).take k.1)).flatMap nc), En.blk b71 (dc (chainN d (parR l a) (maxTime l + 1) r k.1).p) 39]) (fun k => k.1 ≤ r.length ∧ ∀ i : Nat, i < k.1 → ¬ (⟨d.r, d.c + (i : Int)⟩ : Dot) ∈ l.map Nd.d) (fun k => r.length - k.1) (0, q.2.1, q.2.2) (.cons rfl (.cons rfl (.cons rfl (.cons rfl (.nil _))))) (.cons rfl (.cons rfl (.nil _))) (.refl _) ⟨by simp, fun _ h => by simp at h⟩ ?_
                            intro k hkk
                            obtain ⟨hkk, hnb⟩ := hkk
                            refine WA.seq ?_
                            refine WA.seq ?_
                            refine WA.region ?_
                            refine WR.val (G0 rfl) rfl rfl (.move rfl rfl) ?_
                            refine WR.val (G0 rfl) rfl rfl (.move rfl rfl) ?_
                            refine WR.val (G0 rfl) rfl rfl (.len rfl ST_63.1 rfl) ?_
                            refine WR.val (G0 rfl) rfl rfl (.lss rfl rfl rfl) ?_
                            refine WR.nil ?_
                            refine WA.cond rfl (fun h76 => ?_) (fun h76 => ?_)
                            · have f77 := h76
                              try simp only [decide_eq_true_eq, decide_eq_false_iff_not, Bool.not_eq_true', Bool.not_eq_false', Int.not_lt, Int.not_le] at f77
                              refine WA.skip ?_
                              refine WA.seq ?_
                              refine WA.block ?_
                              refine WA.seq ?_
                              refine WA.draws0 follows ?_
                              refine WH.take 0 rfl (Pf_blind _ _ _ _ _) (by kernel_rfl) (by kernel_rfl) (by kernel_rfl) (.refl _) (G0 rfl) rfl rfl (.fa rfl FA_39_0 rfl) ?_
                              refine WH.take 1 rfl (Pf_blind _ _ _ _ _) (by kernel_rfl) (by kernel_rfl) (by kernel_rfl) (.refl _) (G0 rfl) rfl rfl (.load1 rfl NA_3 rfl (fun _ hw => hw.rd_blk (k := 1) 3 rfl rfl)) ?_
                              refine WH.take 2 rfl (Pf_blind _ _ _ _ _) (by kernel_rfl) (by kernel_rfl) (by kernel_rfl) (.refl _) (G0 rfl) rfl rfl (.fa rfl FA_39_1 rfl) ?_
                              refine WH.take 3 rfl (Pf_blind _ _ _ _ _) (by kernel_rfl) (by kernel_rfl) (by kernel_rfl) (.refl _) (G0 rfl) rfl rfl (.load1 rfl NA_3 rfl (fun _ hw => hw.rd_blk (k := 1) 3 rfl rfl)) ?_
                              refine WH.take 4 rfl (Pf_blind _ _ _ _ _) (by kernel_rfl) (by kernel_rfl) (by kernel_rfl) (.refl _) (G0 rfl) rfl rfl (.move rfl rfl) ?_
                              refine WH.take 5 rfl (Pf_blind _ _ _ _ _) (by kernel_rfl) (by kernel_rfl) (by kernel_rfl) (.refl _) (G0 rfl) rfl rfl (.add rfl rfl rfl (by omega) (by omega)) ?_
                              refine WH.take 6 rfl (Pf_blind _ _ _ _ _) (by kernel_rfl) (by kernel_rfl) (by kernel_rfl) (.refl _) (G0 rfl) rfl rfl (.build (vs := [_, _]) [.int .i64 0, .int .i64 0] [0, 1] rfl rfl rfl (fun _ => by kernel_rfl)) ?_
                              refine WH.take 7 rfl (Pf_blind _ _ _ _ _) (by kernel_rfl) (by kernel_rfl) (by kernel_rfl) (.refl _) (G0 rfl) rfl rfl (.loadK (vs := [_, _]) rfl AG_39 rfl (fun _ hw => hw.rd_blk (k := 2) 1 rfl rfl)) ?_
                              refine WH.take 8 rfl (Pf_blind _ _ _ _ _) (by kernel_rfl) (by kernel_rfl) (by kernel_rfl) (.refl _) (G0 rfl) rfl rfl (.move rfl rfl) ?_
                              refine WH.take 11 rfl (Pf_blind _ _ _ _ _) (by kernel_rfl) (by kernel_rfl) (by kernel_rfl) (.refl _) (G0 rfl) rfl rfl (.move rfl rfl) ?_
                              refine WH.take 13 rfl (Pf_blind _ _ _ _ _) (by kernel_rfl) (by kernel_rfl) (by kernel_rfl) (.refl _) (G0 rfl) rfl rfl (.move rfl rfl) ?_
                              refine WH.take 14 rfl (Pf_blind _ _ _ _ _) (by kernel_rfl) (by kernel_rfl) (by kernel_rfl) (.refl _) (G0 rfl) rfl rfl (.move rfl rfl) ?_
                              refine WH.take 15 rfl (Pf_blind _ _ _ _ _) (by kernel_rfl) (by kernel_rfl) (by kernel_rfl) (.refl _) (G0 rfl) rfl rfl (.ix rfl ST_63 rfl rfl (by omega) (by omega) (fun _ hw hn => (hw.slf0 hR).some_ hn)) ?_
                              refine WH.take 16 rfl (Pf_blind _ _ _ _ _) (by kernel_rfl) (by kernel_rfl) (by kernel_rfl) (.refl _) (G0 rfl) rfl rfl (.load1 rfl NA_21 rfl (fun _ hw => rdR (hw.slf0 hR) (by omega) (by omega))) ?_
                              refine WH.two (i := 9) (j := 18) (by kernel_rfl) ?_ ?_
                              · refine WO.dw 9 rfl (G0 rfl) rfl rfl (.callv (caps := []) rfl rfl rfl EN_52 (fun w hw => jlatestOkF l _ _ _ (hw.slf0 hS) (by omega) hok)) ?_
                                rintro _ _ ⟨rfl, rfl⟩
                                refine ⟨(.refl _), ?_⟩
                                refine WH.take 10 rfl (Pf_blind _ _ _ _ _) (by kernel_rfl) (by kernel_rfl) (by kernel_rfl) (.refl _) (G0 rfl) rfl rfl (.add rfl rfl rfl (by omega) (by omega)) ?_
                                refine WH.take 12 rfl (Pf_blind _ _ _ _ _) (by kernel_rfl) (by kernel_rfl) (by kernel_rfl) (.refl _) (G0 rfl) rfl rfl (.add rfl rfl rfl (by omega) (by omega)) ?_
                                refine WH.take 17 rfl (Pf_blind _ _ _ _ _) (by kernel_rfl) (by kernel_rfl) (by kernel_rfl) (.refl _) (G0 rfl) rfl rfl (.build (vs := [_, _, _, _, _, _]) [.int .i64 0, .int .i64 0, .int .i64 0, .int .i64 0, .int .i64 0, .int .i32 0] [0, 2, 4, 5] rfl rfl rfl (fun _ => by kernel_rfl)) ?_
                                refine WH.dw 18 rfl (by kernel_rfl) (G0 rfl) rfl rfl (.alloc (vs := [_, _, _, _, _, _]) rfl ZT_42 rfl) ?_
                                rintro _ _ ⟨b83, rfl, rfl⟩
                                refine ⟨(.cons _ (.refl _)), ?_⟩
                                refine WH.dw0 19 rfl (by kernel_rfl) (G0 rfl) rfl (.store (i := 0) rfl AG_42.2 rfl rfl [_, _, _, _, _, _] rfl rfl (by intro u hu; simp at hu; rcases hu with rfl | rfl | rfl | rfl | rfl | rfl <;> rfl) rfl rfl) ?_
                                rintro _ _ ⟨rfl, rfl⟩
                                refine ⟨(.cons _ (.refl _)), ?_⟩
                                refine WH.done (by kernel_rfl) ?_
                                refine WA.seq ?_
                                refine WA.seq ?_
                                refine WA.region ?_
                                refine WR.val (G0 rfl) rfl rfl (.move rfl rfl) ?_
                                refine WR.val (G0 rfl) rfl rfl (.fa rfl FA_42_0 rfl) ?_
                                refine WR.val (G0 rfl) rfl rfl (.loadK (vs := [_, _]) rfl AG_39 rfl (fun _ hw => hw.rd_blk (k := 2) 0 rfl rfl)) ?_
                                refine WR.dw (G0 rfl) rfl rfl (.callv (caps := []) rfl rfl rfl EN_114 (fun w hw => jfindF l _ _ _ (hw.slf0 hS) (by omega) ⟨d.r, d.c + (k.1 : Int)⟩)) ?_
                                rintro _ _ ⟨rfl, rfl⟩
                                refine WR.val (G0 rfl) rfl rfl (.geq rfl rfl rfl) ?_
                                refine WR.nil ?_
                                refine WA.cond rfl (fun h85 => ?_) (fun h85 => ?_)
                                · have f86 := h85
                                  try simp only [decide_eq_true_eq, decide_eq_false_iff_not, Bool.not_eq_true', Bool.not_eq_false', Int.not_lt, Int.not_le] at f86
                                  refine WA.seq ?_
                                  refine WA.region ?_
                                  refine WR.val (G0 rfl) rfl rfl (.assign rfl rfl) ?_
                                  refine WR.val (G0 rfl) rfl rfl (.assign rfl rfl) ?_
                                  refine WR.nil ?_
                                  have hE : replaceR l d a n r = ([], 11) := by
                                    unfold replaceR; rw [if_neg (by simp [hwl, hdv]), if_neg (by simp [hz]), if_neg hn5, if_neg hod, if_neg hex, if_pos (busy_iff (k := k.1) (by omega) (fnd_mem (by omega)))]
                                  rw [hE]
                                  refine WA.nilrow 42 6 ?_
                                  exact WA.ret2 rfl rfl rfl (List.singleton_sublist.2 (List.mem_cons_self ..)) ⟨none, 0, rfl, rfl⟩
                                · have f87 := h85
                                  try simp only [decide_eq_true_eq, decide_eq_false_iff_not, Bool.not_eq_true', Bool.not_eq_false', Int.not_lt, Int.not_le] at f87
                                  refine WA.skip ?_
                                  refine WA.seq ?_
                                  have hgl2 := gjn_len ((chainF d (parR l a) (maxTime l + 1) r).take k.1) (gjn [] (cutN l a n))
                                  have htl2 := List.length_take_le k.1 (chainF d (parR l a) (maxTime l + 1) r)
                                  refine WA.region ?_
                                  refine WR.val (G0 rfl) rfl rfl (.move rfl rfl) ?_
                                  refine WR.val (G0 rfl) rfl rfl (.loadK (vs := [_, _, _, _, _, _]) rfl AG_42 rfl (fun _ hw => hw.rd_blk (k := 6) 0 rfl rfl)) ?_
                                  refine WR.dw (G0 rfl) rfl rfl (.buildSlice (k := 6) (e := 42) (vs := [_, _, _, _, _, _]) rfl rfl rfl (fun _ => by kernel_rfl) rfl) ?_
                                  rintro _ _ ⟨b89, rfl, rfl⟩
                                  refine WR.dw (G0 rfl) rfl rfl (.call0 (caps := []) rfl rfl rfl EN_56 (fun w hw => jjoinF (gjn (gjn [] (cutN l a n)) ((chainF d (parR l a) (maxTime l + 1) r).take k.1)) [(chainN d (parR l a) (maxTime l + 1) r k.1)] _ _ _ _ _ (hw.slf_row 2 rfl) (hw.slf_blk 0 rfl rfl (by simp [maxLen])) (by omega) (by simp))) ?_
                                  rintro _ _ ⟨_, ⟨v91, v92, rfl, rfl⟩, rfl⟩
                                  refine WR.val (G0 rfl) rfl rfl (.assign rfl rfl) ?_
                                  refine WR.nil ?_
                                  refine WA.region ?_
                                  refine WR.val (G0 rfl) rfl rfl (.fa rfl FA_42_0 rfl) ?_
                                  refine WR.val (G0 rfl) rfl rfl (.loadK (vs := [_, _]) rfl AG_39 rfl (fun _ hw => hw.rd_blk (k := 2) 2 rfl rfl)) ?_
                                  refine WR.dw0 (G0 rfl) rfl (.store (i := 4) rfl AG_39.2 rfl rfl [_, _] rfl rfl (by intro u hu; simp at hu; rcases hu with rfl | rfl <;> rfl) rfl rfl) ?_
                                  rintro _ _ ⟨rfl, rfl⟩
                                  refine WR.nil ?_
                                  refine WA.mark ?_
                                  refine WA.region ?_
                                  refine WR.val (G0 rfl) rfl rfl (.move rfl rfl) ?_
                                  refine WR.val (G0 rfl) rfl rfl (.add rfl rfl rfl (by omega) (by omega)) ?_
                                  refine WR.val (G0 rfl) rfl rfl (.assign rfl rfl) ?_
                                  refine WR.nil ?_
                                  have hgt : (gjn (gjn [] (cutN l a n)) ((chainF d (parR l a) (maxTime l + 1) r).take (k.1 + 1))) = gjn (gjn (gjn [] (cutN l a n)) ((chainF d (parR l a) (maxTime l + 1) r).take k.1)) [(chainN d (parR l a) (maxTime l + 1) r k.1)] := by rw [gjn_take (by rw [chainF_len]; omega), chainF_gx (by omega)]; rfl
                                  rw [← hgt]
                                  refine WA.blkeq 4 rfl (dc (chainN d (parR l a) (maxTime l + 1) r (k.1 + 1)).p) (by simp only [chainN, if_neg (Nat.succ_ne_zero k.1)]; rw [show d.c + ((k.1 + 1 : Nat) : Int) - 1 = d.c + (k.1 : Int) by omega]; rfl) ?_
                                  exact WA.roundK (k.1 + 1, v91, v92) (.cons rfl (.cons rfl (.cons rfl (.cons rfl (.nil _))))) (.cons rfl (.cons rfl (.nil _))) (.cons_cons _ (.cons _ (.cons _ (.cons _ (.refl _))))) ⟨by dsimp only; omega, lt_snoc hnb (fun hm => by have := fnd_map hm; omega)⟩ (by dsimp only; omega)
                              · refine WO.dw 18 rfl (G0 rfl) rfl rfl (.alloc (vs := [_, _, _, _, _, _]) rfl ZT_42 rfl) ?_
                                rintro _ _ ⟨b95, rfl, rfl⟩
                                refine ⟨(.cons _ (.refl _)), ?_⟩
                                refine WH.dw 9 rfl (by kernel_rfl) (G0 rfl) rfl rfl (.callv (caps := []) rfl rfl rfl EN_52 (fun w hw => jlatestOkF l _ _ _ (hw.slf0 hS) (by omega) hok)) ?_
                                rintro _ _ ⟨rfl, rfl⟩
                                refine ⟨(.cons _ (.refl _)), ?_⟩
                                refine WH.take 10 rfl (Pf_blind _ _ _ _ _) (by kernel_rfl) (by kernel_rfl) (by kernel_rfl) (.cons _ (.refl _)) (G0 rfl) rfl rfl (.add rfl rfl rfl (by omega) (by omega)) ?_
                                refine WH.take 12 rfl (Pf_blind _ _ _ _ _) (by kernel_rfl) (by kernel_rfl) (by kernel_rfl) (.cons _ (.refl _)) (G0 rfl) rfl rfl (.add rfl rfl rfl (by omega) (by omega)) ?_
                                refine WH.take 17 rfl (Pf_blind _ _ _ _ _) (by kernel_rfl) (by kernel_rfl) (by kernel_rfl) (.cons _ (.refl _)) (G0 rfl) rfl rfl (.build (vs := [_, _, _, _, _, _]) [.int .i64 0, .int .i64 0, .int .i64 0, .int .i64 0, .int .i64 0, .int .i32 0] [0, 2, 4, 5] rfl rfl rfl (fun _ => by kernel_rfl)) ?_
                                refine WH.dw0 19 rfl (by kernel_rfl) (G0 rfl) rfl (.store (i := 0) rfl AG_42.2 rfl rfl [_, _, _, _, _, _] rfl rfl (by intro u hu; simp at hu; rcases hu with rfl | rfl | rfl | rfl | rfl | rfl <;> rfl) rfl rfl) ?_
                                rintro _ _ ⟨rfl, rfl⟩
                                refine ⟨(.cons _ (.refl _)), ?_⟩
                                refine WH.done (by kernel_rfl) ?_
                                refine WA.seq ?_
                                refine WA.seq ?_
                                refine WA.region ?_
                                refine WR.val (G0 rfl) rfl rfl (.move rfl rfl) ?_
                                refine WR.val (G0 rfl) rfl rfl (.fa rfl FA_42_0 rfl) ?_
                                refine WR.val (G0 rfl) rfl rfl (.loadK (vs := [_, _]) rfl AG_39 rfl (fun _ hw => hw.rd_blk (k := 2) 0 rfl rfl)) ?_
                                refine WR.dw (G0 rfl) rfl rfl (.callv (caps := []) rfl rfl rfl EN_114 (fun w hw => jfindF l _ _ _ (hw.slf0 hS) (by omega) ⟨d.r, d.c + (k.1 : Int)⟩)) ?_
                                rintro _ _ ⟨rfl, rfl⟩
                                refine WR.val (G0 rfl) rfl rfl (.geq rfl rfl rfl) ?_
                                refine WR.nil ?_
                                refine WA.cond rfl (fun h97 => ?_) (fun h97 => ?_)
                                · have f98 := h97
                                  try simp only [decide_eq_true_eq, decide_eq_false_iff_not, Bool.not_eq_true', Bool.not_eq_false', Int.not_lt, Int.not_le] at f98
                                  refine WA.seq ?_
                                  refine WA.region ?_
                                  refine WR.val (G0 rfl) rfl rfl (.assign rfl rfl) ?_
                                  refine WR.val (G0 rfl) rfl rfl (.assign rfl rfl) ?_
                                  refine WR.nil ?_
                                  have hE : replaceR l d a n r = ([], 11) := by
                                    unfold replaceR; rw [if_neg (by simp [hwl, hdv]), if_neg (by simp [hz]), if_neg hn5, if_neg hod, if_neg hex, if_pos (busy_iff (k := k.1) (by omega) (fnd_mem (by omega)))]
                                  rw [hE]
                                  refine WA.nilrow 42 6 ?_
                                  exact WA.ret2 rfl rfl rfl (List.singleton_sublist.2 (List.mem_cons_self ..)) ⟨none, 0, rfl, rfl⟩
                                · have f99 := h97
                                  try simp only [decide_eq_true_eq, decide_eq_false_iff_not, Bool.not_eq_true', Bool.not_eq_false', Int.not_lt, Int.not_le] at f99
                                  refine WA.skip ?_
                                  refine WA.seq ?_
                                  have hgl2 := gjn_len ((chainF d (parR l a) (maxTime l + 1) r).take k.1) (gjn [] (cutN l a n))
                                  have htl2 := List.length_take_le k.1 (chainF d (parR l a) (maxTime l + 1) r)
                                  refine WA.region ?_
                                  refine WR.val (G0 rfl) rfl rfl (.move rfl rfl) ?_
                                  refine WR.val (G0 rfl) rfl rfl (.loadK (vs := [_, _, _, _, _, _]) rfl AG_42 rfl (fun _ hw => hw.rd_blk (k := 6) 0 rfl rfl)) ?_
                                  refine WR.dw (G0 rfl) rfl rfl (.buildSlice (k := 6) (e := 42) (vs := [_, _, _, _, _, _]) rfl rfl rfl (fun _ => by kernel_rfl) rfl) ?_
                                  rintro _ _ ⟨b101, rfl, rfl⟩
                                  refine WR.dw (G0 rfl) rfl rfl (.call0 (caps := []) rfl rfl rfl EN_56 (fun w hw => jjoinF (gjn (gjn [] (cutN l a n)) ((chainF d (parR l a) (maxTime l + 1) r).take k.1)) [(chainN d (parR l a) (maxTime l + 1) r k.1)] _ _ _ _ _ (hw.slf_row 2 rfl) (hw.slf_blk 0 rfl rfl (by simp [maxLen])) (by omega) (by simp))) ?_
                                  rintro _ _ ⟨_, ⟨v103, v104, rfl, rfl⟩, rfl⟩
                                  refine WR.val (G0 rfl) rfl rfl (.assign rfl rfl) ?_
                                  refine WR.nil ?_
                                  refine WA.region ?_
                                  refine WR.val (G0 rfl) rfl rfl (.fa rfl FA_42_0 rfl) ?_
                                  refine WR.val (G0 rfl) rfl rfl (.loadK (vs := [_, _]) rfl AG_39 rfl (fun _ hw => hw.rd_blk (k := 2) 2 rfl rfl)) ?_
                                  refine WR.dw0 (G0 rfl) rfl (.store (i := 4) rfl AG_39.2 rfl rfl [_, _] rfl rfl (by intro u hu; simp at hu; rcases hu with rfl | rfl <;> rfl) rfl rfl) ?_
                                  rintro _ _ ⟨rfl, rfl⟩
                                  refine WR.nil ?_
                                  refine WA.mark ?_
                                  refine WA.region ?_
                                  refine WR.val (G0 rfl) rfl rfl (.move rfl rfl) ?_
                                  refine WR.val (G0 rfl) rfl rfl (.add rfl rfl rfl (by omega) (by omega)) ?_
                                  refine WR.val (G0 rfl) rfl rfl (.assign rfl rfl) ?_
                                  refine WR.nil ?_
                                  have hgt : (gjn (gjn [] (cutN l a n)) ((chainF d (parR l a) (maxTime l + 1) r).take (k.1 + 1))) = gjn (gjn (gjn [] (cutN l a n)) ((chainF d (parR l a) (maxTime l + 1) r).take k.1)) [(chainN d (parR l a) (maxTime l + 1) r k.1)] := by rw [gjn_take (by rw [chainF_len]; omega), chainF_gx (by omega)]; rfl
                                  rw [← hgt]
                                  refine WA.blkeq 4 rfl (dc (chainN d (parR l a) (maxTime l + 1) r (k.1 + 1)).p) (by simp only [chainN, if_neg (Nat.succ_ne_zero k.1)]; rw [show d.c + ((k.1 + 1 : Nat) : Int) - 1 = d.c + (k.1 : Int) by omega]; rfl) ?_
                                  exact WA.roundK (k.1 + 1, v103, v104) (.cons rfl (.cons rfl (.cons rfl (.cons rfl (.nil _))))) (.cons rfl (.cons rfl (.nil _))) (.cons_cons _ (.cons _ (.cons _ (.cons _ (.refl _))))) ⟨by dsimp only; omega, lt_snoc hnb (fun hm => by have := fnd_map hm; omega)⟩ (by dsimp only; omega)
                            · have f106 := h76
                              try simp only [decide_eq_true_eq, decide_eq_false_iff_not, Bool.not_eq_true', Bool.not_eq_false', Int.not_lt, Int.not_le] at f106
                              refine WA.exit rfl ?_
                              refine WA.seq ?_
                              refine WA.region ?_
                              refine WR.val (G0 rfl) rfl rfl (.move rfl rfl) ?_
                              refine WR.val (G0 rfl) rfl rfl (.assign rfl rfl) ?_
                              refine WR.val (G0 rfl) rfl rfl (.assign rfl rfl) ?_
                              refine WR.nil ?_
                              have hbn : busy l d r = false := busy_none (fun i hi => hnb i (by omega))
                              have hgd : (gjn (gjn [] (cutN l a n)) ((chainF d (parR l a) (maxTime l + 1) r).take k.1)) = deltaF l (cutK l a n) (parR l a) d r := by rw [List.take_of_length_le (by rw [chainF_len]; omega)]; exact (replace_ed hdv hz hod hex hbn).gjn
                              have hE : replaceR l d a n r = (deltaF l (cutK l a n) (parR l a) d r, 0) := by unfold replaceR; rw [if_neg (by simp [hwl, hdv]), if_neg (by simp [hz]), if_neg hn5, if_neg hod, if_neg hex, if_neg (by simp [hbn])]
                              rw [hE, hgd]
                              exact WA.ret2 rfl rfl rfl (.cons_cons _ (.cons _ (.cons _ (.cons _ .slnil)))) ⟨_, _, rfl, rfl⟩
                          · have f107 := h73
                            try simp only [decide_eq_true_eq, decide_eq_false_iff_not, Bool.not_eq_true', Bool.not_eq_false', Int.not_lt, Int.not_le] at f107
                            refine WA.skip ?_
                            refine WA.seq ?_
                            refine WA.seq ?_
                            refine WA.blkeq 0 rfl (dc (chainN d (parR l a) (maxTime l + 1) r 0).p) (by first | (simp only [chainN, parR, if_true]; rw [if_neg (by omega)]; rfl) | (simp only [chainN, parR, if_true]; rw [if_pos (by omega)]; rfl)) ?_
                            have hg : (gjn [] ((cutN l a n).take q.1)) = (gjn [] (cutN l a n)) := by rw [List.take_of_length_le (by omega)]
                            rw [hg]
                            have hgl := gjn_len0 (cutN l a n)
                            refine WA.region ?_
                            refine WR.val (G0 rfl) rfl rfl (.assign rfl rfl) ?_
                            refine WR.nil ?_
                            refine WA.block ?_
                            refine WA.front 0 rfl ?_
                            refine WA.front 1 rfl ?_
                            refine WA.loopK (γ := Nat × Option Addr × Nat) [(0, _), (4, _), (6, _), (17, _)] [_, _] (fun k => [(14, .slice k.2.1 (gjn (gjn [] (cutN l a n)) ((chainF d (parR l a) (maxTime l + 1) r).take k.1)).length k.2.2), (18, .int .i64 (k.1 : Int))]) (fun k => [En.row k.2.1 (gjn (gjn [] (cutN l a n)) ((chainF d (parR l a) (maxTime l + 1) r).take k.1)).length k.2.2 42 6 ((gjn (gjn [] (cutN l a n)) ((chainF d (parR l a) (maxTime l + 1) r).take k.1)).flatMap nc), En.blk b71 (dc (chainN d (parR l a) (maxTime l + 1) r k.1).p) 39]) (fun k => k.1 ≤ r.length ∧ ∀ i : Nat, i < k.1 → ¬ (⟨d.r, d.c + (i : Int)⟩ : Dot) ∈ l.map Nd.d) (fun k => r.length - k.1) (0, q.2.1, q.2.2) (.cons rfl (.cons rfl (.cons rfl (.cons rfl (.nil _))))) (.cons rfl (.cons rfl (.nil _))) (.refl _) ⟨by simp, fun _ h => by simp at h⟩ ?_
                            intro k hkk
                            obtain ⟨hkk, hnb⟩ := hkk
                            refine WA.seq ?_
                            refine WA.seq ?_
                            refine WA.region ?_
                            refine WR.val (G0 rfl) rfl rfl (.move rfl rfl) ?_
                            refine WR.val (G0 rfl) rfl rfl (.move rfl rfl) ?_
                            refine WR.val (G0 rfl) rfl rfl (.len rfl ST_63.1 rfl) ?_
                            refine WR.val (G0 rfl) rfl rfl (.lss rfl rfl rfl) ?_
                            refine WR.nil ?_
                            refine WA.cond rfl (fun h109 => ?_) (fun h109 => ?_)
                            · have f110 := h109
                              try simp only [decide_eq_true_eq, decide_eq_false_iff_not, Bool.not_eq_true', Bool.not_eq_false', Int.not_lt, Int.not_le] at f110
                              refine WA.skip ?_
                              refine WA.seq ?_
                              refine WA.block ?_
                              refine WA.seq ?_
                              refine WA.draws0 follows ?_
                              refine WH.take 0 rfl (Pf_blind _ _ _ _ _) (by kernel_rfl) (by kernel_rfl) (by kernel_rfl) (.refl _) (G0 rfl) rfl rfl (.fa rfl FA_39_0 rfl) ?_
                              refine WH.take 1 rfl (Pf_blind _ _ _ _ _) (by kernel_rfl) (by kernel_rfl) (by kernel_rfl) (.refl _) (G0 rfl) rfl rfl (.load1 rfl NA_3 rfl (fun _ hw => hw.rd_blk (k := 1) 3 rfl rfl)) ?_
                              refine WH.take 2 rfl (Pf_blind _ _ _ _ _) (by kernel_rfl) (by kernel_rfl) (by kernel_rfl) (.refl _) (G0 rfl) rfl rfl (.fa rfl FA_39_1 rfl) ?_
                              refine WH.take 3 rfl (Pf_blind _ _ _ _ _) (by kernel_rfl) (by kernel_rfl) (by kernel_rfl) (.refl _) (G0 rfl) rfl rfl (.load1 rfl NA_3 rfl (fun _ hw => hw.rd_blk (k := 1) 3 rfl rfl)) ?_
                              refine WH.take 4 rfl (Pf_blind _ _ _ _ _) (by kernel_rfl) (by kernel_rfl) (by kernel_rfl) (.refl _) (G0 rfl) rfl rfl (.move rfl rfl) ?_
                              refine WH.take 5 rfl (Pf_blind _ _ _ _ _) (by kernel_rfl) (by kernel_rfl) (by kernel_rfl) (.refl _) (G0 rfl) rfl rfl (.add rfl rfl rfl (by omega) (by omega)) ?_
                              refine WH.take 6 rfl (Pf_blind _ _ _ _ _) (by kernel_rfl) (by kernel_rfl) (by kernel_rfl) (.refl _) (G0 rfl) rfl rfl (.build (vs := [_, _]) [.int .i64 0, .int .i64 0] [0, 1] rfl rfl rfl (fun _ => by kernel_rfl)) ?_
                              refine WH.take 7 rfl (Pf_blind _ _ _ _ _) (by kernel_rfl) (by kernel_rfl) (by kernel_rfl) (.refl _) (G0 rfl) rfl rfl (.loadK (vs := [_, _]) rfl AG_39 rfl (fun _ hw => hw.rd_blk (k := 2) 1 rfl rfl)) ?_
                              refine WH.take 8 rfl (Pf_blind _ _ _ _ _) (by kernel_rfl) (by kernel_rfl) (by kernel_rfl) (.refl _) (G0 rfl) rfl rfl (.move rfl rfl) ?_
                              refine WH.take 11 rfl (Pf_blind _ _ _ _ _) (by kernel_rfl) (by kernel_rfl) (by kernel_rfl) (.refl _) (G0 rfl) rfl rfl (.move rfl rfl) ?_
                              refine WH.take 13 rfl (Pf_blind _ _ _ _ _) (by kernel_rfl) (by kernel_rfl) (by kernel_rfl) (.refl _) (G0 rfl) rfl rfl (.move rfl rfl) ?_
                              refine WH.take 14 rfl (Pf_blind _ _ _ _ _) (by kernel_rfl) (by kernel_rfl) (by kernel_rfl) (.refl _) (G0 rfl) rfl rfl (.move rfl rfl) ?_
                              refine WH.take 15 rfl (Pf_blind _ _ _ _ _) (by kernel_rfl) (by kernel_rfl) (by kernel_rfl) (.refl _) (G0 rfl) rfl rfl (.ix rfl ST_63 rfl rfl (by omega) (by omega) (fun _ hw hn => (hw.slf0 hR).some_ hn)) ?_
                              refine WH.take 16 rfl (Pf_blind _ _ _ _ _) (by kernel_rfl) (by kernel_rfl) (by kernel_rfl) (.refl _) (G0 rfl) rfl rfl (.load1 rfl NA_21 rfl (fun _ hw => rdR (hw.slf0 hR) (by omega) (by omega))) ?_
                              refine WH.two (i := 9) (j := 18) (by kernel_rfl) ?_ ?_
                              · refine WO.dw 9 rfl (G0 rfl) rfl rfl (.callv (caps := []) rfl rfl rfl EN_52 (fun w hw => jlatestOkF l _ _ _ (hw.slf0 hS) (by omega) hok)) ?_
                                rintro _ _ ⟨rfl, rfl⟩
                                refine ⟨(.refl _), ?_⟩
                                refine WH.take 10 rfl (Pf_blind _ _ _ _ _) (by kernel_rfl) (by kernel_rfl) (by kernel_rfl) (.refl _) (G0 rfl) rfl rfl (.add rfl rfl rfl (by omega) (by omega)) ?_
                                refine WH.take 12 rfl (Pf_blind _ _ _ _ _) (by kernel_rfl) (by kernel_rfl) (by kernel_rfl) (.refl _) (G0 rfl) rfl rfl (.add rfl rfl rfl (by omega) (by omega)) ?_
                                refine WH.take 17 rfl (Pf_blind _ _ _ _ _) (by kernel_rfl) (by kernel_rfl) (by kernel_rfl) (.refl _) (G0 rfl) rfl rfl (.build (vs := [_, _, _, _, _, _]) [.int .i64 0, .int .i64 0, .int .i64 0, .int .i64 0, .int .i64 0, .int .i32 0] [0, 2, 4, 5] rfl rfl rfl (fun _ => by kernel_rfl)) ?_
                                refine WH.dw 18 rfl (by kernel_rfl) (G0 rfl) rfl rfl (.alloc (vs := [_, _, _, _, _, _]) rfl ZT_42 rfl) ?_
                                rintro _ _ ⟨b116, rfl, rfl⟩
                                refine ⟨(.cons _ (.refl _)), ?_⟩
                                refine WH.dw0 19 rfl (by kernel_rfl) (G0 rfl) rfl (.store (i := 0) rfl AG_42.2 rfl rfl [_, _, _, _, _, _] rfl rfl (by intro u hu; simp at hu; rcases hu with rfl | rfl | rfl | rfl | rfl | rfl <;> rfl) rfl rfl) ?_
                                rintro _ _ ⟨rfl, rfl⟩
                                refine ⟨(.cons _ (.refl _)), ?_⟩
                                refine WH.done (by kernel_rfl) ?_
                                refine WA.seq ?_
                                refine WA.seq ?_
                                refine WA.region ?_
                                refine WR.val (G0 rfl) rfl rfl (.move rfl rfl) ?_
                                refine WR.val (G0 rfl) rfl rfl (.fa rfl FA_42_0 rfl) ?_
                                refine WR.val (G0 rfl) rfl rfl (.loadK (vs := [_, _]) rfl AG_39 rfl (fun _ hw => hw.rd_blk (k := 2) 0 rfl rfl)) ?_
                                refine WR.dw (G0 rfl) rfl rfl (.callv (caps := []) rfl rfl rfl EN_114 (fun w hw => jfindF l _ _ _ (hw.slf0 hS) (by omega) ⟨d.r, d.c + (k.1 : Int)⟩)) ?_
                                rintro _ _ ⟨rfl, rfl⟩
                                refine WR.val (G0 rfl) rfl rfl (.geq rfl rfl rfl) ?_
                                refine WR.nil ?_
                                refine WA.cond rfl (fun h118 => ?_) (fun h118 => ?_)
                                · have f119 := h118
                                  try simp only [decide_eq_true_eq, decide_eq_false_iff_not, Bool.not_eq_true', Bool.not_eq_false', Int.not_lt, Int.not_le] at f119
                                  refine WA.seq ?_
                                  refine WA.region ?_
                                  refine WR.val (G0 rfl) rfl rfl (.assign rfl rfl) ?_
                                  refine WR.val (G0 rfl) rfl rfl (.assign rfl rfl) ?_
                                  refine WR.nil ?_
                                  have hE : replaceR l d a n r = ([], 11) := by
                                    unfold replaceR; rw [if_neg (by simp [hwl, hdv]), if_neg (by simp [hz]), if_neg hn5, if_neg hod, if_neg hex, if_pos (busy_iff (k := k.1) (by omega) (fnd_mem (by omega)))]
                                  rw [hE]
                                  refine WA.nilrow 42 6 ?_
                                  exact WA.ret2 rfl rfl rfl (List.singleton_sublist.2 (List.mem_cons_self ..)) ⟨none, 0, rfl, rfl⟩
                                · have f120 := h118
                                  try simp only [decide_eq_true_eq, decide_eq_false_iff_not, Bool.not_eq_true', Bool.not_eq_false', Int.not_lt, Int.not_le] at f120
                                  refine WA.skip ?_
                                  refine WA.seq ?_
                                  have hgl2 := gjn_len ((chainF d (parR l a) (maxTime l + 1) r).take k.1) (gjn [] (cutN l a n))
                                  have htl2 := List.length_take_le k.1 (chainF d (parR l a) (maxTime l + 1) r)
                                  refine WA.region ?_
                                  refine WR.val (G0 rfl) rfl rfl (.move rfl rfl) ?_
                                  refine WR.val (G0 rfl) rfl rfl (.loadK (vs := [_, _, _, _, _, _]) rfl AG_42 rfl (fun _ hw => hw.rd_blk (k := 6) 0 rfl rfl)) ?_
                                  refine WR.dw (G0 rfl) rfl rfl (.buildSlice (k := 6) (e := 42) (vs := [_, _, _, _, _, _]) rfl rfl rfl (fun _ => by kernel_rfl) rfl) ?_
                                  rintro _ _ ⟨b122, rfl, rfl⟩
                                  refine WR.dw (G0 rfl) rfl rfl (.call0 (caps := []) rfl rfl rfl EN_56 (fun w hw => jjoinF (gjn (gjn [] (cutN l a n)) ((chainF d (parR l a) (maxTime l + 1) r).take k.1)) [(chainN d (parR l a) (maxTime l + 1) r k.1)] _ _ _ _ _ (hw.slf_row 2 rfl) (hw.slf_blk 0 rfl rfl (by simp [maxLen])) (by omega) (by simp))) ?_
                                  rintro _ _ ⟨_, ⟨v124, v125, rfl, rfl⟩, rfl⟩
                                  refine WR.val (G0 rfl) rfl rfl (.assign rfl rfl) ?_
                                  refine WR.nil ?_
                                  refine WA.region ?_
                                  refine WR.val (G0 rfl) rfl rfl (.fa rfl FA_42_0 rfl) ?_
                                  refine WR.val (G0 rfl) rfl rfl (.loadK (vs := [_, _]) rfl AG_39 rfl (fun _ hw => hw.rd_blk (k := 2) 2 rfl rfl)) ?_
                                  refine WR.dw0 (G0 rfl) rfl (.store (i := 4) rfl AG_39.2 rfl rfl [_, _] rfl rfl (by intro u hu; simp at hu; rcases hu with rfl | rfl <;> rfl) rfl rfl) ?_
                                  rintro _ _ ⟨rfl, rfl⟩
                                  refine WR.nil ?_
                                  refine WA.mark ?_
                                  refine WA.region ?_
                                  refine WR.val (G0 rfl) rfl rfl (.move rfl rfl) ?_
                                  refine WR.val (G0 rfl) rfl rfl (.add rfl rfl rfl (by omega) (by omega)) ?_
                                  refine WR.val (G0 rfl) rfl rfl (.assign rfl rfl) ?_
                                  refine WR.nil ?_
                                  have hgt : (gjn (gjn [] (cutN l a n)) ((chainF d (parR l a) (maxTime l + 1) r).take (k.1 + 1))) = gjn (gjn (gjn [] (cutN l a n)) ((chainF d (parR l a) (maxTime l + 1) r).take k.1)) [(chainN d (parR l a) (maxTime l + 1) r k.1)] := by rw [gjn_take (by rw [chainF_len]; omega), chainF_gx (by omega)]; rfl
                                  rw [← hgt]
                                  refine WA.blkeq 4 rfl (dc (chainN d (parR l a) (maxTime l + 1) r (k.1 + 1)).p) (by simp only [chainN, if_neg (Nat.succ_ne_zero k.1)]; rw [show d.c + ((k.1 + 1 : Nat) : Int) - 1 = d.c + (k.1 : Int) by omega]; rfl) ?_
                                  exact WA.roundK (k.1 + 1, v124, v125) (.cons rfl (.cons rfl (.cons rfl (.cons rfl (.nil _))))) (.cons rfl (.cons rfl (.nil _))) (.cons_cons _ (.cons _ (.cons _ (.cons _ (.refl _))))) ⟨by dsimp only; omega, lt_snoc hnb (fun hm => by have := fnd_map hm; omega)⟩ (by dsimp only; omega)
                              · refine WO.dw 18 rfl (G0 rfl) rfl rfl (.alloc (vs := [_, _, _, _, _, _]) rfl ZT_42 rfl) ?_
                                rintro _ _ ⟨b128, rfl, rfl⟩
                                refine ⟨(.cons _ (.refl _)), ?_⟩
                                refine WH.dw 9 rfl (by kernel_rfl) (G0 rfl) rfl rfl (.callv (caps := []) rfl rfl rfl EN_52 (fun w hw => jlatestOkF l _ _ _ (hw.slf0 hS) (by omega) hok)) ?_
                                rintro _ _ ⟨rfl, rfl⟩
                                refine ⟨(.cons _ (.refl _)), ?_⟩
                                refine WH.take 10 rfl (Pf_blind _ _ _ _ _) (by kernel_rfl) (by kernel_rfl) (by kernel_rfl) (.cons _ (.refl _)) (G0 rfl) rfl rfl (.add rfl rfl rfl (by omega) (by omega)) ?_
                                refine WH.take 12 rfl (Pf_blind _ _ _ _ _) (by kernel_rfl) (by kernel_rfl) (by kernel_rfl) (.cons _ (.refl _)) (G0 rfl) rfl rfl (.add rfl rfl rfl (by omega) (by omega)) ?_
                                refine WH.take 17 rfl (Pf_blind _ _ _ _ _) (by kernel_rfl) (by kernel_rfl) (by kernel_rfl) (.cons _ (.refl _)) (G0 rfl) rfl rfl (.build (vs := [_, _, _, _, _, _]) [.int .i64 0, .int .i64 0, .int .i64 0, .int .i64 0, .int .i64 0, .int .i32 0] [0, 2, 4, 5] rfl rfl rfl (fun _ => by kernel_rfl)) ?_
                                refine WH.dw0 19 rfl (by kernel_rfl) (G0 rfl) rfl (.store (i := 0) rfl AG_42.2 rfl rfl [_, _, _, _, _, _] rfl rfl (by intro u hu; simp at hu; rcases hu with rfl | rfl | rfl | rfl | rfl | rfl <;> rfl) rfl rfl) ?_
                                rintro _ _ ⟨rfl, rfl⟩
                                refine ⟨(.cons _ (.refl _)), ?_⟩
                                refine WH.done (by kernel_rfl) ?_
                                refine WA.seq ?_
                                refine WA.seq ?_
                                refine WA.region ?_
                                refine WR.val (G0 rfl) rfl rfl (.move rfl rfl) ?_
                                refine WR.val (G0 rfl) rfl rfl (.fa rfl FA_42_0 rfl) ?_
                                refine WR.val (G0 rfl) rfl rfl (.loadK (vs := [_, _]) rfl AG_39 rfl (fun _ hw => hw.rd_blk (k := 2) 0 rfl rfl)) ?_
                                refine WR.dw (G0 rfl) rfl rfl (.callv (caps := []) rfl rfl rfl EN_114 (fun w hw => jfindF l _ _ _ (hw.slf0 hS) (by omega) ⟨d.r, d.c + (k.1 : Int)⟩)) ?_
                                rintro _ _ ⟨rfl, rfl⟩
                                refine WR.val (G0 rfl) rfl rfl (.geq rfl rfl rfl) ?_
                                refine WR.nil ?_
                                refine WA.cond rfl (fun h130 => ?_) (fun h130 => ?_)
                                · have f131 := h130
                                  try simp only [decide_eq_true_eq, decide_eq_false_iff_not, Bool.not_eq_true', Bool.not_eq_false', Int.not_lt, Int.not_le] at f131
                                  refine WA.seq ?_
                                  refine WA.region ?_
                                  refine WR.val (G0 rfl) rfl rfl (.assign rfl rfl) ?_
                                  refine WR.val (G0 rfl) rfl rfl (.assign rfl rfl) ?_
                                  refine WR.nil ?_
                                  have hE : replaceR l d a n r = ([], 11) := by
                                    unfold replaceR; rw [if_neg (by simp [hwl, hdv]), if_neg (by simp [hz]), if_neg hn5, if_neg hod, if_neg hex, if_pos (busy_iff (k := k.1) (by omega) (fnd_mem (by omega)))]
                                  rw [hE]
                                  refine WA.nilrow 42 6 ?_
                                  exact WA.ret2 rfl rfl rfl (List.singleton_sublist.2 (List.mem_cons_self ..)) ⟨none, 0, rfl, rfl⟩
                                · have f132 := h130
                                  try simp only [decide_eq_true_eq, decide_eq_false_iff_not, Bool.not_eq_true', Bool.not_eq_false', Int.not_lt, Int.not_le] at f132
                                  refine WA.skip ?_
                                  refine WA.seq ?_
                                  have hgl2 := gjn_len ((chainF d (parR l a) (maxTime l + 1) r).take k.1) (gjn [] (cutN l a n))
                                  have htl2 := List.length_take_le k.1 (chainF d (parR l a) (maxTime l + 1) r)
                                  refine WA.region ?_
                                  refine WR.val (G0 rfl) rfl rfl (.move rfl rfl) ?_
                                  refine WR.val (G0 rfl) rfl rfl (.loadK (vs := [_, _, _, _, _, _]) rfl AG_42 rfl (fun _ hw => hw.rd_blk (k := 6) 0 rfl rfl)) ?_
                                  refine WR.dw (G0 rfl) rfl rfl (.buildSlice (k := 6) (e := 42) (vs := [_, _, _, _, _, _]) rfl rfl rfl (fun _ => by kernel_rfl) rfl) ?_
                                  rintro _ _ ⟨b134, rfl, rfl⟩
                                  refine WR.dw (G0 rfl) rfl rfl (.call0 (caps := []) rfl rfl rfl EN_56 (fun w hw => jjoinF (gjn (gjn [] (cutN l a n)) ((chainF d (parR l a) (maxTime l + 1) r).take k.1)) [(chainN d (parR l a) (maxTime l + 1) r k.1)] _ _ _ _ _ (hw.slf_row 2 rfl) (hw.slf_blk 0 rfl rfl (by simp [maxLen])) (by omega) (by simp))) ?_
                                  rintro _ _ ⟨_, ⟨v136, v137, rfl, rfl⟩, rfl⟩
                                  refine WR.val (G0 rfl) rfl rfl (.assign rfl rfl) ?_
                                  refine WR.nil ?_
                                  refine WA.region ?_
                                  refine WR.val (G0 rfl) rfl rfl (.fa rfl FA_42_0 rfl) ?_
                                  refine WR.val (G0 rfl) rfl rfl (.loadK (vs := [_, _]) rfl AG_39 rfl (fun _ hw => hw.rd_blk (k := 2) 2 rfl rfl)) ?_
                                  refine WR.dw0 (G0 rfl) rfl (.store (i := 4) rfl AG_39.2 rfl rfl [_, _] rfl rfl (by intro u hu; simp at hu; rcases hu with rfl | rfl <;> rfl) rfl rfl) ?_
                                  rintro _ _ ⟨rfl, rfl⟩
                                  refine WR.nil ?_
                                  refine WA.mark ?_
                                  refine WA.region ?_
                                  refine WR.val (G0 rfl) rfl rfl (.move rfl rfl) ?_
                                  refine WR.val (G0 rfl) rfl rfl (.add rfl rfl rfl (by omega) (by omega)) ?_
                                  refine WR.val (G0 rfl) rfl rfl (.assign rfl rfl) ?_
                                  refine WR.nil ?_
                                  have hgt : (gjn (gjn [] (cutN l a n)) ((chainF d (parR l a) (maxTime l + 1) r).take (k.1 + 1))) = gjn (gjn (gjn [] (cutN l a n)) ((chainF d (parR l a) (maxTime l + 1) r).take k.1)) [(chainN d (parR l a) (maxTime l + 1) r k.1)] := by rw [gjn_take (by rw [chainF_len]; omega), chainF_gx (by omega)]; rfl
                                  rw [← hgt]
                                  refine WA.blkeq 4 rfl (dc (chainN d (parR l a) (maxTime l + 1) r (k.1 + 1)).p) (by simp only [chainN, if_neg (Nat.succ_ne_zero k.1)]; rw [show d.c + ((k.1 + 1 : Nat) : Int) - 1 = d.c + (k.1 : Int) by omega]; rfl) ?_
                                  exact WA.roundK (k.1 + 1, v136, v137) (.cons rfl (.cons rfl (.cons rfl (.cons rfl (.nil _))))) (.cons rfl (.cons rfl (.nil _))) (.cons_cons _ (.cons _ (.cons _ (.cons _ (.refl _))))) ⟨by dsimp only; omega, lt_snoc hnb (fun hm => by have := fnd_map hm; omega)⟩ (by dsimp only; omega)
                            · have f139 := h109
                              try simp only [decide_eq_true_eq, decide_eq_false_iff_not, Bool.not_eq_true', Bool.not_eq_false', Int.not_lt, Int.not_le] at f139
                              refine WA.exit rfl ?_
                              refine WA.seq ?_
                              refine WA.region ?_
                              refine WR.val (G0 rfl) rfl rfl (.move rfl rfl) ?_
                              refine WR.val (G0 rfl) rfl rfl (.assign rfl rfl) ?_
                              refine WR.val (G0 rfl) rfl rfl (.assign rfl rfl) ?_
                              refine WR.nil ?_
                              have hbn : busy l d r = false := busy_none (fun i hi => hnb i (by omega))
                              have hgd : (gjn (gjn [] (cutN l a n)) ((chainF d (parR l a) (maxTime l + 1) r).take k.1)) = deltaF l (cutK l a n) (parR l a) d r := by rw [List.take_of_length_le (by rw [chainF_len]; omega)]; exact (replace_ed hdv hz hod hex hbn).gjn
                              have hE : replaceR l d a n r = (deltaF l (cutK l a n) (parR l a) d r, 0) := by unfold replaceR; rw [if_neg (by simp [hwl, hdv]), if_neg (by simp [hz]), if_neg hn5, if_neg hod, if_neg hex, if_neg (by simp [hbn])]
                              rw [hE, hgd]
                              exact WA.ret2 rfl rfl rfl (.cons_cons _ (.cons _ (.cons _ (.cons _ .slnil)))) ⟨_, _, rfl, rfl⟩

set_option maxRecDepth 20000 in
/-- redpencil/redpencilref15.Delete -/
theorem jdeleteF (l : List Nd) (A : Option Addr) (cap : Nat) (w : World) (hS : SlN w A l) (hl : l.length ≤ 100000) (a n : Int) : Ct Tryz.prog 45 #[.slice A l.length cap, .int .i64 a, .int .i64 n] [] w (fun u hs => ∃ B c, u = .tuple #[.slice B (deleteR l a n).1.length c, .int .i64 (deleteR l a n).2] ∧ hs = [En.row B (deleteR l a n).1.length c 42 6 ((deleteR l a n).1.flatMap nc)]) := by
  refine Ct.intro Tryz.func45 rfl Tryz.ntmps45 rfl ?_
  refine WA.seq ?_
  refine WA.region ?_
  refine WR.val (G0 rfl) rfl rfl (.assign rfl rfl) ?_
  refine WR.val (G0 rfl) rfl rfl (.assign rfl rfl) ?_
  refine WR.nil ?_
  refine WA.seq ?_
  refine WA.region ?_
  refine WR.val (G0 rfl) rfl rfl (.move rfl rfl) ?_
  refine WR.val (G0 rfl) rfl rfl (.build (vs := [_, _]) [.int .i64 0, .int .i64 0] [0, 1] rfl rfl rfl (fun _ => by kernel_rfl)) ?_
  refine WR.val (G0 rfl) rfl rfl (.move rfl rfl) ?_
  refine WR.val (G0 rfl) rfl rfl (.move rfl rfl) ?_
  refine WR.dw (G0 rfl) rfl rfl (.call0 (caps := []) rfl rfl rfl EN_40 (fun w hw => jreplaceF l _ _ _ (hw.slf0 hS) hl ⟨1, 1⟩ a n [] _ _ (SlF.nil _ _ _) (by simp))) ?_
  rintro _ _ ⟨_, ⟨v2, v3, rfl, rfl⟩, rfl⟩
  refine WR.val (G0 rfl) rfl rfl (.extract (vs := [_, _]) rfl rfl rfl) ?_
  refine WR.val (G0 rfl) rfl rfl (.extract (vs := [_, _]) rfl rfl rfl) ?_
  refine WR.val (G0 rfl) rfl rfl (.assign rfl rfl) ?_
  refine WR.val (G0 rfl) rfl rfl (.assign rfl rfl) ?_
  refine WR.nil ?_
  rw [← delete_replace]
  exact WA.ret2 rfl rfl rfl (.refl _) ⟨_, _, rfl, rfl⟩
end Go.Proofs.YtpbillinpjccdaaGreat.Fp
