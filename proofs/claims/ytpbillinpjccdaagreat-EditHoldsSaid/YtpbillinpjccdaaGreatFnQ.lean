/- Contracts: references. -/
import Derived.Test.YtpbillinpjccdaaGreatFmQ
import Derived.Test.YtpbillinpjccdaaGreatRmQ
namespace Go.Proofs.YtpbillinpjccdaaGreat.Fn
open Go.RowKit Go.J Go.R Go.Proofs.YtpbillinpjccdaaGreat.Fa Go.Proofs.YtpbillinpjccdaaGreat.Fb Go.Proofs.YtpbillinpjccdaaGreat.Fc Go.Proofs.YtpbillinpjccdaaGreat.Fd Go.Proofs.YtpbillinpjccdaaGreat.Fe Go.Proofs.YtpbillinpjccdaaGreat.Fg Go.Proofs.YtpbillinpjccdaaGreat.Fh Go.Proofs.YtpbillinpjccdaaGreat.Fi Go.Proofs.YtpbillinpjccdaaGreat.Fj Go.Proofs.YtpbillinpjccdaaGreat.Fk Go.Proofs.YtpbillinpjccdaaGreat.Fl Go.Proofs.YtpbillinpjccdaaGreat.Fm
set_option linter.unusedVariables false
set_option linter.unusedSimpArgs false
theorem follows : Tryz.prog.follows .mixedOrders = true := by kernel_rfl
theorem AG_39 : AG Tryz.prog 39 2 := ⟨Tryz.isAgg39, Tryz.sizeOf39⟩
theorem AG_42 : AG Tryz.prog 42 6 := ⟨Tryz.isAgg42, Tryz.sizeOf42⟩
theorem EN_112 : Enters Tryz.prog 112 := enters_of Tryz.func112 (by kernel_rfl) rfl
theorem EN_128 : Enters Tryz.prog 128 := enters_of Tryz.func128 (by kernel_rfl) rfl
theorem EN_129 : Enters Tryz.prog 129 := enters_of Tryz.func129 (by kernel_rfl) rfl
theorem EN_59 : Enters Tryz.prog 59 := enters_of Tryz.func59 (by kernel_rfl) rfl
theorem EQ_eql_39 {a0 a1 b0 b1 : Int} : ∀ x y w, (do eqGuard .eql 39 x y (.agg #[.int .i64 a0, .int .i64 a1]) (.agg #[.int .i64 b0, .int .i64 b1]); binOp .eql 39 (.agg #[.int .i64 a0, .int .i64 a1]) (.agg #[.int .i64 b0, .int .i64 b1]) : Sem Value).run Tryz.prog w = .ok (.bool (decide (a0 = b0) && (decide (a1 = b1)))) w := fun x y w => by
  simp [go_sem]
  by_cases a0 = b0 <;> by_cases a1 = b1 <;> simp [*]
theorem EQT_eql_39 {a b : Dot} : ∀ x y w, (do eqGuard .eql 39 x y (dv a) (dv b); binOp .eql 39 (dv a) (dv b) : Sem Value).run Tryz.prog w = .ok (.bool (decide (a = b))) w := fun x y w => by
  simp [go_sem]
  by_cases a.r = b.r <;> by_cases a.c = b.c <;> simp [Dot.eq_iff, *]
theorem EQT_neq_39 {a b : Dot} : ∀ x y w, (do eqGuard .neq 39 x y (dv a) (dv b); binOp .neq 39 (dv a) (dv b) : Sem Value).run Tryz.prog w = .ok (.bool (!decide (a = b))) w := fun x y w => by
  simp [go_sem]
  by_cases a.r = b.r <;> by_cases a.c = b.c <;> simp [Dot.eq_iff, *]
theorem EQT_neq_42 {a b : Nd} : ∀ x y w, (do eqGuard .neq 42 x y (nv a) (nv b); binOp .neq 42 (nv a) (nv b) : Sem Value).run Tryz.prog w = .ok (.bool (!decide (a = b))) w := fun x y w => by
  simp [go_sem]
  by_cases a.d.r = b.d.r <;> by_cases a.d.c = b.d.c <;> by_cases a.p.r = b.p.r <;> by_cases a.p.c = b.p.c <;> by_cases a.t = b.t <;> by_cases a.x = b.x <;> simp [Nd.eq_iff, Dot.eq_iff, *]
theorem FA_39_0 : FA Tryz.prog 39 0 0 := fun ad w => by simp [Instr.fieldAt, run_underlying Tryz.underlying39, Instr.sureAddr, fieldPlace, Tryz.sizeOf3]
theorem FA_39_1 : FA Tryz.prog 39 1 1 := fun ad w => by simp [Instr.fieldAt, run_underlying Tryz.underlying39, Instr.sureAddr, fieldPlace, Tryz.sizeOf3]
theorem FA_42_0 : FA Tryz.prog 42 0 0 := fun ad w => by simp [Instr.fieldAt, run_underlying Tryz.underlying42, Instr.sureAddr, fieldPlace, Tryz.sizeOf39]
theorem FA_42_1 : FA Tryz.prog 42 1 2 := fun ad w => by simp [Instr.fieldAt, run_underlying Tryz.underlying42, Instr.sureAddr, fieldPlace, Tryz.sizeOf39]
theorem FA_42_2 : FA Tryz.prog 42 2 4 := fun ad w => by simp [Instr.fieldAt, run_underlying Tryz.underlying42, Instr.sureAddr, fieldPlace, Tryz.sizeOf3]
theorem FA_42_3 : FA Tryz.prog 42 3 5 := fun ad w => by simp [Instr.fieldAt, run_underlying Tryz.underlying42, Instr.sureAddr, fieldPlace, Tryz.sizeOf21]
theorem NA_21 : NA Tryz.prog 21 := ⟨Tryz.isAgg21, Tryz.sizeOf21⟩
theorem NA_3 : NA Tryz.prog 3 := ⟨Tryz.isAgg3, Tryz.sizeOf3⟩
theorem ST_23 : ST Tryz.prog 23 42 6 := ⟨Tryz.underlying23, Tryz.sizeOf42⟩
set_option maxRecDepth 20000 in
/-- redpencil/redpencilref14.Before -/
theorem jbeforeF (a b : Dot) (w : World) : Ct Tryz.prog 129 #[dv a, dv b] [] w (fun u hs => u = .bool (decide (dlt a b)) ∧ hs = []) := by
  refine Ct.intro Tryz.func129 rfl Tryz.ntmps129 rfl ?_
  refine WA.seq ?_
  refine WA.region ?_
  refine WR.dw (G0 rfl) rfl rfl (.box (vs := [_, _]) rfl rfl rfl) ?_
  rintro _ _ ⟨b2, rfl, rfl⟩
  refine WR.dw (G0 rfl) rfl rfl (.box (vs := [_, _]) rfl rfl rfl) ?_
  rintro _ _ ⟨b4, rfl, rfl⟩
  refine WR.val (G0 rfl) rfl rfl (.assign rfl rfl) ?_
  refine WR.nil ?_
  refine WA.seq ?_
  refine WA.region ?_
  refine WR.val (G0 rfl) rfl rfl (.fa rfl FA_39_1 rfl) ?_
  refine WR.val (G0 rfl) rfl rfl (.load1 rfl NA_3 rfl (fun _ hw => hw.rd_blk (k := 1) 1 rfl rfl)) ?_
  refine WR.val (G0 rfl) rfl rfl (.fa rfl FA_39_1 rfl) ?_
  refine WR.val (G0 rfl) rfl rfl (.load1 rfl NA_3 rfl (fun _ hw => hw.rd_blk (k := 1) 0 rfl rfl)) ?_
  refine WR.val (G0 rfl) rfl rfl (.lss rfl rfl rfl) ?_
  refine WR.val (G0 rfl) rfl rfl (.move rfl rfl) ?_
  refine WR.split (d := 10) rfl (fun h6 => ?_) (fun h6 => ?_)
  · have f7 := h6
    try simp only [decide_eq_true_eq, decide_eq_false_iff_not, Bool.not_eq_true', Bool.not_eq_false', Int.not_lt, Int.not_le] at f7
    refine WR.off (Gf rfl rfl rfl h6) rfl rfl ?_
    refine WR.off (Gf rfl rfl rfl h6) rfl rfl ?_
    refine WR.off (Gf rfl rfl rfl h6) rfl rfl ?_
    refine WR.off (Gf rfl rfl rfl h6) rfl rfl ?_
    refine WR.off (Gf rfl rfl rfl h6) rfl rfl ?_
    refine WR.off (Gf rfl rfl rfl h6) rfl rfl ?_
    refine WR.off (Gu rfl rfl rfl) rfl rfl ?_
    refine WR.off (Gu rfl rfl rfl) rfl rfl ?_
    refine WR.off (Gu rfl rfl rfl) rfl rfl ?_
    refine WR.off (Gu rfl rfl rfl) rfl rfl ?_
    refine WR.off (Gu rfl rfl rfl) rfl rfl ?_
    refine WR.off (Gf rfl rfl rfl h6) rfl rfl ?_
    refine WR.val (G0 rfl) rfl rfl (.pick_t rfl rfl h6 rfl) ?_
    refine WR.val (G0 rfl) rfl rfl (.assign rfl rfl) ?_
    refine WR.nil ?_
    exact WA.ret1 rfl rfl (List.nil_sublist _) ⟨by congr 1; rw [Bool.eq_iff_iff]; simp_all [dlt] <;> omega, rfl⟩
  · have f8 := h6
    try simp only [decide_eq_true_eq, decide_eq_false_iff_not, Bool.not_eq_true', Bool.not_eq_false', Int.not_lt, Int.not_le] at f8
    refine WR.val (Gt rfl rfl rfl h6) rfl rfl (.fa rfl FA_39_1 rfl) ?_
    refine WR.val (Gt rfl rfl rfl h6) rfl rfl (.load1 rfl NA_3 rfl (fun _ hw => hw.rd_blk (k := 1) 1 rfl rfl)) ?_
    refine WR.val (Gt rfl rfl rfl h6) rfl rfl (.fa rfl FA_39_1 rfl) ?_
    refine WR.val (Gt rfl rfl rfl h6) rfl rfl (.load1 rfl NA_3 rfl (fun _ hw => hw.rd_blk (k := 1) 0 rfl rfl)) ?_
    refine WR.val (Gt rfl rfl rfl h6) rfl rfl (.eql rfl rfl rfl) ?_
    refine WR.val (Gt rfl rfl rfl h6) rfl rfl (.move rfl rfl) ?_
    refine WR.split (d := 16) rfl (fun h10 => ?_) (fun h10 => ?_)
    · have f11 := h10
      try simp only [decide_eq_true_eq, decide_eq_false_iff_not, Bool.not_eq_true', Bool.not_eq_false', Int.not_lt, Int.not_le] at f11
      refine WR.val (Gt rfl rfl rfl h10) rfl rfl (.fa rfl FA_39_0 rfl) ?_
      refine WR.val (Gt rfl rfl rfl h10) rfl rfl (.load1 rfl NA_3 rfl (fun _ hw => hw.rd_blk (k := 1) 1 rfl rfl)) ?_
      refine WR.val (Gt rfl rfl rfl h10) rfl rfl (.fa rfl FA_39_0 rfl) ?_
      refine WR.val (Gt rfl rfl rfl h10) rfl rfl (.load1 rfl NA_3 rfl (fun _ hw => hw.rd_blk (k := 1) 0 rfl rfl)) ?_
      refine WR.val (Gt rfl rfl rfl h10) rfl rfl (.lss rfl rfl rfl) ?_
      refine WR.val (Gt rfl rfl rfl h6) rfl rfl (.pick_t rfl rfl h10 rfl) ?_
      refine WR.val (G0 rfl) rfl rfl (.pick_f rfl rfl h6 rfl) ?_
      refine WR.val (G0 rfl) rfl rfl (.assign rfl rfl) ?_
      refine WR.nil ?_
      exact WA.ret1 rfl rfl (List.nil_sublist _) ⟨by congr 1; rw [Bool.eq_iff_iff]; simp_all [dlt] <;> omega, rfl⟩
    · have f13 := h10
      try simp only [decide_eq_true_eq, decide_eq_false_iff_not, Bool.not_eq_true', Bool.not_eq_false', Int.not_lt, Int.not_le] at f13
      refine WR.off (Gf rfl rfl rfl h10) rfl rfl ?_
      refine WR.off (Gf rfl rfl rfl h10) rfl rfl ?_
      refine WR.off (Gf rfl rfl rfl h10) rfl rfl ?_
      refine WR.off (Gf rfl rfl rfl h10) rfl rfl ?_
      refine WR.off (Gf rfl rfl rfl h10) rfl rfl ?_
      refine WR.val (Gt rfl rfl rfl h6) rfl rfl (.pick_f rfl rfl h10 rfl) ?_
      refine WR.val (G0 rfl) rfl rfl (.pick_f rfl rfl h6 rfl) ?_
      refine WR.val (G0 rfl) rfl rfl (.assign rfl rfl) ?_
      refine WR.nil ?_
      exact WA.ret1 rfl rfl (List.nil_sublist _) ⟨by congr 1; rw [Bool.eq_iff_iff]; simp_all [dlt] <;> omega, rfl⟩
set_option maxRecDepth 20000 in
/-- redpencil/redpencilref14.IsDot -/
theorem jisdotF (d : Dot) (w : World) : Ct Tryz.prog 112 #[dv d] [] w (fun u hs => u = .bool (dvalid d) ∧ hs = []) := by
  refine Ct.intro Tryz.func112 rfl Tryz.ntmps112 rfl ?_
  refine WA.seq ?_
  refine WA.region ?_
  refine WR.dw (G0 rfl) rfl rfl (.box (vs := [_, _]) rfl rfl rfl) ?_
  rintro _ _ ⟨b2, rfl, rfl⟩
  refine WR.val (G0 rfl) rfl rfl (.assign rfl rfl) ?_
  refine WR.nil ?_
  refine WA.seq ?_
  refine WA.region ?_
  refine WR.val (G0 rfl) rfl rfl (.fa rfl FA_39_0 rfl) ?_
  refine WR.val (G0 rfl) rfl rfl (.load1 rfl NA_3 rfl (fun _ hw => hw.rd_blk (k := 1) 0 rfl rfl)) ?_
  refine WR.val (G0 rfl) rfl rfl (.geq rfl rfl rfl) ?_
  refine WR.val (G0 rfl) rfl rfl (.move rfl rfl) ?_
  refine WR.split (d := 6) rfl (fun h4 => ?_) (fun h4 => ?_)
  · have f5 := h4
    try simp only [decide_eq_true_eq, decide_eq_false_iff_not, Bool.not_eq_true', Bool.not_eq_false', Int.not_lt, Int.not_le] at f5
    refine WR.val (Gt rfl rfl rfl h4) rfl rfl (.fa rfl FA_39_0 rfl) ?_
    refine WR.val (Gt rfl rfl rfl h4) rfl rfl (.load1 rfl NA_3 rfl (fun _ hw => hw.rd_blk (k := 1) 0 rfl rfl)) ?_
    refine WR.val (Gt rfl rfl rfl h4) rfl rfl (.leq rfl rfl rfl) ?_
    refine WR.val (G0 rfl) rfl rfl (.pick_t rfl rfl h4 rfl) ?_
    refine WR.val (G0 rfl) rfl rfl (.move rfl rfl) ?_
    refine WR.split (d := 11) rfl (fun h7 => ?_) (fun h7 => ?_)
    · have f8 := h7
      try simp only [decide_eq_true_eq, decide_eq_false_iff_not, Bool.not_eq_true', Bool.not_eq_false', Int.not_lt, Int.not_le] at f8
      refine WR.val (Gt rfl rfl rfl h7) rfl rfl (.fa rfl FA_39_1 rfl) ?_
      refine WR.val (Gt rfl rfl rfl h7) rfl rfl (.load1 rfl NA_3 rfl (fun _ hw => hw.rd_blk (k := 1) 0 rfl rfl)) ?_
      refine WR.val (Gt rfl rfl rfl h7) rfl rfl (.geq rfl rfl rfl) ?_
      refine WR.val (G0 rfl) rfl rfl (.pick_t rfl rfl h7 rfl) ?_
      refine WR.val (G0 rfl) rfl rfl (.move rfl rfl) ?_
      refine WR.split (d := 16) rfl (fun h10 => ?_) (fun h10 => ?_)
      · have f11 := h10
        try simp only [decide_eq_true_eq, decide_eq_false_iff_not, Bool.not_eq_true', Bool.not_eq_false', Int.not_lt, Int.not_le] at f11
        refine WR.val (Gt rfl rfl rfl h10) rfl rfl (.fa rfl FA_39_1 rfl) ?_
        refine WR.val (Gt rfl rfl rfl h10) rfl rfl (.load1 rfl NA_3 rfl (fun _ hw => hw.rd_blk (k := 1) 0 rfl rfl)) ?_
        refine WR.val (Gt rfl rfl rfl h10) rfl rfl (.leq rfl rfl rfl) ?_
        refine WR.val (G0 rfl) rfl rfl (.pick_t rfl rfl h10 rfl) ?_
        refine WR.val (G0 rfl) rfl rfl (.assign rfl rfl) ?_
        refine WR.nil ?_
        exact WA.ret1 rfl rfl (List.nil_sublist _) ⟨by congr 1; rw [Bool.eq_iff_iff]; simp only [dvalid, decide_eq_true_eq]; first | omega | (constructor <;> intro hh <;> first | omega | trivial | cases hh), rfl⟩
      · have f13 := h10
        try simp only [decide_eq_true_eq, decide_eq_false_iff_not, Bool.not_eq_true', Bool.not_eq_false', Int.not_lt, Int.not_le] at f13
        refine WR.off (Gf rfl rfl rfl h10) rfl rfl ?_
        refine WR.off (Gf rfl rfl rfl h10) rfl rfl ?_
        refine WR.off (Gf rfl rfl rfl h10) rfl rfl ?_
        refine WR.val (G0 rfl) rfl rfl (.pick_f rfl rfl h10 rfl) ?_
        refine WR.val (G0 rfl) rfl rfl (.assign rfl rfl) ?_
        refine WR.nil ?_
        exact WA.ret1 rfl rfl (List.nil_sublist _) ⟨by congr 1; rw [Bool.eq_iff_iff]; simp only [dvalid, decide_eq_true_eq]; first | omega | (constructor <;> intro hh <;> first | omega | trivial | cases hh), rfl⟩
    · have f14 := h7
      try simp only [decide_eq_true_eq, decide_eq_false_iff_not, Bool.not_eq_true', Bool.not_eq_false', Int.not_lt, Int.not_le] at f14
      refine WR.off (Gf rfl rfl rfl h7) rfl rfl ?_
      refine WR.off (Gf rfl rfl rfl h7) rfl rfl ?_
      refine WR.off (Gf rfl rfl rfl h7) rfl rfl ?_
      refine WR.val (G0 rfl) rfl rfl (.pick_f rfl rfl h7 rfl) ?_
      refine WR.val (G0 rfl) rfl rfl (.move rfl rfl) ?_
      refine WR.off (Gf rfl rfl rfl rfl) rfl rfl ?_
      refine WR.off (Gf rfl rfl rfl rfl) rfl rfl ?_
      refine WR.off (Gf rfl rfl rfl rfl) rfl rfl ?_
      refine WR.val (G0 rfl) rfl rfl (.pick_f rfl rfl rfl rfl) ?_
      refine WR.val (G0 rfl) rfl rfl (.assign rfl rfl) ?_
      refine WR.nil ?_
      exact WA.ret1 rfl rfl (List.nil_sublist _) ⟨by congr 1; rw [Bool.eq_iff_iff]; simp only [dvalid, decide_eq_true_eq]; first | omega | (constructor <;> intro hh <;> first | omega | trivial | cases hh), rfl⟩
  · have f15 := h4
    try simp only [decide_eq_true_eq, decide_eq_false_iff_not, Bool.not_eq_true', Bool.not_eq_false', Int.not_lt, Int.not_le] at f15
    refine WR.off (Gf rfl rfl rfl h4) rfl rfl ?_
    refine WR.off (Gf rfl rfl rfl h4) rfl rfl ?_
    refine WR.off (Gf rfl rfl rfl h4) rfl rfl ?_
    refine WR.val (G0 rfl) rfl rfl (.pick_f rfl rfl h4 rfl) ?_
    refine WR.val (G0 rfl) rfl rfl (.move rfl rfl) ?_
    refine WR.off (Gf rfl rfl rfl rfl) rfl rfl ?_
    refine WR.off (Gf rfl rfl rfl rfl) rfl rfl ?_
    refine WR.off (Gf rfl rfl rfl rfl) rfl rfl ?_
    refine WR.val (G0 rfl) rfl rfl (.pick_f rfl rfl rfl rfl) ?_
    refine WR.val (G0 rfl) rfl rfl (.move rfl rfl) ?_
    refine WR.off (Gf rfl rfl rfl rfl) rfl rfl ?_
    refine WR.off (Gf rfl rfl rfl rfl) rfl rfl ?_
    refine WR.off (Gf rfl rfl rfl rfl) rfl rfl ?_
    refine WR.val (G0 rfl) rfl rfl (.pick_f rfl rfl rfl rfl) ?_
    refine WR.val (G0 rfl) rfl rfl (.assign rfl rfl) ?_
    refine WR.nil ?_
    exact WA.ret1 rfl rfl (List.nil_sublist _) ⟨by congr 1; rw [Bool.eq_iff_iff]; simp only [dvalid, decide_eq_true_eq]; first | omega | (constructor <;> intro hh <;> first | omega | trivial | cases hh), rfl⟩
set_option maxRecDepth 20000 in
/-- redpencil/redpencilref14.IsRune -/
theorem jisruneF (x : Int) (w : World) : Ct Tryz.prog 59 #[.int .i32 x] [] w (fun u hs => u = .bool (rvalid x) ∧ hs = []) := by
  refine Ct.intro Tryz.func59 rfl Tryz.ntmps59 rfl ?_
  refine WA.seq ?_
  refine WA.region ?_
  refine WR.val (G0 rfl) rfl rfl (.assign rfl rfl) ?_
  refine WR.nil ?_
  refine WA.seq ?_
  refine WA.region ?_
  refine WR.val (G0 rfl) rfl rfl (.move rfl rfl) ?_
  refine WR.val (G0 rfl) rfl rfl (.geq rfl rfl rfl) ?_
  refine WR.val (G0 rfl) rfl rfl (.move rfl rfl) ?_
  refine WR.split (d := 5) rfl (fun h2 => ?_) (fun h2 => ?_)
  · have f3 := h2
    try simp only [decide_eq_true_eq, decide_eq_false_iff_not, Bool.not_eq_true', Bool.not_eq_false', Int.not_lt, Int.not_le] at f3
    refine WR.val (Gt rfl rfl rfl h2) rfl rfl (.move rfl rfl) ?_
    refine WR.val (Gt rfl rfl rfl h2) rfl rfl (.leq rfl rfl rfl) ?_
    refine WR.val (G0 rfl) rfl rfl (.pick_t rfl rfl h2 rfl) ?_
    refine WR.val (G0 rfl) rfl rfl (.move rfl rfl) ?_
    refine WR.split (d := 9) rfl (fun h5 => ?_) (fun h5 => ?_)
    · have f6 := h5
      try simp only [decide_eq_true_eq, decide_eq_false_iff_not, Bool.not_eq_true', Bool.not_eq_false', Int.not_lt, Int.not_le] at f6
      refine WR.val (Gt rfl rfl rfl h5) rfl rfl (.move rfl rfl) ?_
      refine WR.val (Gt rfl rfl rfl h5) rfl rfl (.lss rfl rfl rfl) ?_
      refine WR.val (Gt rfl rfl rfl h5) rfl rfl (.move rfl rfl) ?_
      refine WR.split (d := 12) rfl (fun h8 => ?_) (fun h8 => ?_)
      · have f9 := h8
        try simp only [decide_eq_true_eq, decide_eq_false_iff_not, Bool.not_eq_true', Bool.not_eq_false', Int.not_lt, Int.not_le] at f9
        refine WR.off (Gf rfl rfl rfl h8) rfl rfl ?_
        refine WR.off (Gf rfl rfl rfl h8) rfl rfl ?_
        refine WR.val (Gt rfl rfl rfl h5) rfl rfl (.pick_t rfl rfl h8 rfl) ?_
        refine WR.val (G0 rfl) rfl rfl (.pick_t rfl rfl h5 rfl) ?_
        refine WR.val (G0 rfl) rfl rfl (.assign rfl rfl) ?_
        refine WR.nil ?_
        exact WA.ret1 rfl rfl (List.nil_sublist _) ⟨by congr 1; rw [Bool.eq_iff_iff]; simp only [rvalid, decide_eq_true_eq]; first | omega | (constructor <;> intro hh <;> first | omega | trivial | cases hh), rfl⟩
      · have f10 := h8
        try simp only [decide_eq_true_eq, decide_eq_false_iff_not, Bool.not_eq_true', Bool.not_eq_false', Int.not_lt, Int.not_le] at f10
        refine WR.val (Gt rfl rfl rfl h8) rfl rfl (.move rfl rfl) ?_
        refine WR.val (Gt rfl rfl rfl h8) rfl rfl (.gtr rfl rfl rfl) ?_
        refine WR.val (Gt rfl rfl rfl h5) rfl rfl (.pick_f rfl rfl h8 rfl) ?_
        refine WR.val (G0 rfl) rfl rfl (.pick_t rfl rfl h5 rfl) ?_
        refine WR.val (G0 rfl) rfl rfl (.assign rfl rfl) ?_
        refine WR.nil ?_
        exact WA.ret1 rfl rfl (List.nil_sublist _) ⟨by congr 1; rw [Bool.eq_iff_iff]; simp only [rvalid, decide_eq_true_eq]; first | omega | (constructor <;> intro hh <;> first | omega | trivial | cases hh), rfl⟩
    · have f12 := h5
      try simp only [decide_eq_true_eq, decide_eq_false_iff_not, Bool.not_eq_true', Bool.not_eq_false', Int.not_lt, Int.not_le] at f12
      refine WR.off (Gf rfl rfl rfl h5) rfl rfl ?_
      refine WR.off (Gf rfl rfl rfl h5) rfl rfl ?_
      refine WR.off (Gf rfl rfl rfl h5) rfl rfl ?_
      refine WR.off (Gu rfl rfl rfl) rfl rfl ?_
      refine WR.off (Gu rfl rfl rfl) rfl rfl ?_
      refine WR.off (Gf rfl rfl rfl h5) rfl rfl ?_
      refine WR.val (G0 rfl) rfl rfl (.pick_f rfl rfl h5 rfl) ?_
      refine WR.val (G0 rfl) rfl rfl (.assign rfl rfl) ?_
      refine WR.nil ?_
      exact WA.ret1 rfl rfl (List.nil_sublist _) ⟨by congr 1; rw [Bool.eq_iff_iff]; simp only [rvalid, decide_eq_true_eq]; first | omega | (constructor <;> intro hh <;> first | omega | trivial | cases hh), rfl⟩
  · have f13 := h2
    try simp only [decide_eq_true_eq, decide_eq_false_iff_not, Bool.not_eq_true', Bool.not_eq_false', Int.not_lt, Int.not_le] at f13
    refine WR.off (Gf rfl rfl rfl h2) rfl rfl ?_
    refine WR.off (Gf rfl rfl rfl h2) rfl rfl ?_
    refine WR.val (G0 rfl) rfl rfl (.pick_f rfl rfl h2 rfl) ?_
    refine WR.val (G0 rfl) rfl rfl (.move rfl rfl) ?_
    refine WR.off (Gf rfl rfl rfl rfl) rfl rfl ?_
    refine WR.off (Gf rfl rfl rfl rfl) rfl rfl ?_
    refine WR.off (Gf rfl rfl rfl rfl) rfl rfl ?_
    refine WR.off (Gu rfl rfl rfl) rfl rfl ?_
    refine WR.off (Gu rfl rfl rfl) rfl rfl ?_
    refine WR.off (Gf rfl rfl rfl rfl) rfl rfl ?_
    refine WR.val (G0 rfl) rfl rfl (.pick_f rfl rfl rfl rfl) ?_
    refine WR.val (G0 rfl) rfl rfl (.assign rfl rfl) ?_
    refine WR.nil ?_
    exact WA.ret1 rfl rfl (List.nil_sublist _) ⟨by congr 1; rw [Bool.eq_iff_iff]; simp only [rvalid, decide_eq_true_eq]; first | omega | (constructor <;> intro hh <;> first | omega | trivial | cases hh), rfl⟩
set_option maxRecDepth 20000 in
/-- redpencil/redpencilref14.IsNode -/
theorem jisnodeF (n : Nd) (w : World) : Ct Tryz.prog 128 #[nv n] [] w (fun u hs => u = .bool (nvalid n) ∧ hs = []) := by
  refine Ct.intro Tryz.func128 rfl Tryz.ntmps128 rfl ?_
  refine WA.seq ?_
  refine WA.region ?_
  refine WR.dw (G0 rfl) rfl rfl (.box (vs := [_, _, _, _, _, _]) rfl rfl rfl) ?_
  rintro _ _ ⟨b2, rfl, rfl⟩
  refine WR.val (G0 rfl) rfl rfl (.assign rfl rfl) ?_
  refine WR.nil ?_
  refine WA.seq ?_
  refine WA.region ?_
  refine WR.val (G0 rfl) rfl rfl (.fa rfl FA_42_0 rfl) ?_
  refine WR.val (G0 rfl) rfl rfl (.loadK (vs := [_, _]) rfl AG_39 rfl (fun _ hw => hw.rd_blk (k := 2) 0 rfl rfl)) ?_
  refine WR.dw (G0 rfl) rfl rfl (.callv (caps := []) rfl rfl rfl EN_112 (fun w hw => jisdotF _ w)) ?_
  rintro _ _ ⟨rfl, rfl⟩
  refine WR.val (G0 rfl) rfl rfl (.move rfl rfl) ?_
  refine WR.split (d := 6) rfl (fun h4 => ?_) (fun h4 => ?_)
  · have f5 := h4
    try simp only [decide_eq_true_eq, decide_eq_false_iff_not, Bool.not_eq_true', Bool.not_eq_false', Int.not_lt, Int.not_le] at f5
    refine WR.val (Gt rfl rfl rfl h4) rfl rfl (.fa rfl FA_42_1 rfl) ?_
    refine WR.val (Gt rfl rfl rfl h4) rfl rfl (.loadK (vs := [_, _]) rfl AG_39 rfl (fun _ hw => hw.rd_blk (k := 2) 0 rfl rfl)) ?_
    refine WR.val (Gt rfl rfl rfl h4) rfl rfl (.build (vs := [_, _]) [.int .i64 0, .int .i64 0] [0, 1] rfl rfl rfl (fun _ => by kernel_rfl)) ?_
    refine WR.val (Gt rfl rfl rfl h4) rfl rfl (.bin rfl rfl rfl EQ_eql_39) ?_
    refine WR.val (Gt rfl rfl rfl h4) rfl rfl (.move rfl rfl) ?_
    refine WR.split (d := 11) rfl (fun h7 => ?_) (fun h7 => ?_)
    · have f8 := h7
      try simp only [decide_eq_true_eq, decide_eq_false_iff_not, Bool.not_eq_true', Bool.not_eq_false', Int.not_lt, Int.not_le] at f8
      refine WR.off (Gf rfl rfl rfl h7) rfl rfl ?_
      refine WR.off (Gf rfl rfl rfl h7) rfl rfl ?_
      refine WR.off (Gf rfl rfl rfl h7) rfl rfl ?_
      refine WR.val (Gt rfl rfl rfl h4) rfl rfl (.pick_t rfl rfl h7 rfl) ?_
      refine WR.val (G0 rfl) rfl rfl (.pick_t rfl rfl h4 rfl) ?_
      refine WR.val (G0 rfl) rfl rfl (.move rfl rfl) ?_
      refine WR.val (Gt rfl rfl rfl rfl) rfl rfl (.fa rfl FA_42_1 rfl) ?_
      refine WR.val (Gt rfl rfl rfl rfl) rfl rfl (.loadK (vs := [_, _]) rfl AG_39 rfl (fun _ hw => hw.rd_blk (k := 2) 0 rfl rfl)) ?_
      refine WR.val (Gt rfl rfl rfl rfl) rfl rfl (.fa rfl FA_42_0 rfl) ?_
      refine WR.val (Gt rfl rfl rfl rfl) rfl rfl (.loadK (vs := [_, _]) rfl AG_39 rfl (fun _ hw => hw.rd_blk (k := 2) 0 rfl rfl)) ?_
      refine WR.val (Gt rfl rfl rfl rfl) rfl rfl (.bin rfl rfl rfl EQT_neq_39) ?_
      refine WR.val (G0 rfl) rfl rfl (.pick_t rfl rfl rfl rfl) ?_
      refine WR.val (G0 rfl) rfl rfl (.move rfl rfl) ?_
      refine WR.split (d := 24) rfl (fun h10 => ?_) (fun h10 => ?_)
      · have f11 := h10
        try simp only [decide_eq_true_eq, decide_eq_false_iff_not, Bool.not_eq_true', Bool.not_eq_false', Int.not_lt, Int.not_le] at f11
        refine WR.val (Gt rfl rfl rfl h10) rfl rfl (.fa rfl FA_42_2 rfl) ?_
        refine WR.val (Gt rfl rfl rfl h10) rfl rfl (.load1 rfl NA_3 rfl (fun _ hw => hw.rd_blk (k := 1) 0 rfl rfl)) ?_
        refine WR.val (Gt rfl rfl rfl h10) rfl rfl (.geq rfl rfl rfl) ?_
        refine WR.val (G0 rfl) rfl rfl (.pick_t rfl rfl h10 rfl) ?_
        refine WR.val (G0 rfl) rfl rfl (.move rfl rfl) ?_
        refine WR.split (d := 29) rfl (fun h13 => ?_) (fun h13 => ?_)
        · have f14 := h13
          try simp only [decide_eq_true_eq, decide_eq_false_iff_not, Bool.not_eq_true', Bool.not_eq_false', Int.not_lt, Int.not_le] at f14
          refine WR.val (Gt rfl rfl rfl h13) rfl rfl (.fa rfl FA_42_2 rfl) ?_
          refine WR.val (Gt rfl rfl rfl h13) rfl rfl (.load1 rfl NA_3 rfl (fun _ hw => hw.rd_blk (k := 1) 0 rfl rfl)) ?_
          refine WR.val (Gt rfl rfl rfl h13) rfl rfl (.leq rfl rfl rfl) ?_
          refine WR.val (G0 rfl) rfl rfl (.pick_t rfl rfl h13 rfl) ?_
          refine WR.val (G0 rfl) rfl rfl (.move rfl rfl) ?_
          refine WR.split (d := 34) rfl (fun h16 => ?_) (fun h16 => ?_)
          · have f17 := h16
            try simp only [decide_eq_true_eq, decide_eq_false_iff_not, Bool.not_eq_true', Bool.not_eq_false', Int.not_lt, Int.not_le] at f17
            refine WR.val (Gt rfl rfl rfl h16) rfl rfl (.fa rfl FA_42_3 rfl) ?_
            refine WR.val (Gt rfl rfl rfl h16) rfl rfl (.load1 rfl NA_21 rfl (fun _ hw => hw.rd_blk (k := 1) 0 rfl rfl)) ?_
            refine WR.val (Gt rfl rfl rfl h16) rfl rfl (.eql rfl rfl rfl) ?_
            refine WR.val (Gt rfl rfl rfl h16) rfl rfl (.move rfl rfl) ?_
            refine WR.split (d := 38) rfl (fun h19 => ?_) (fun h19 => ?_)
            · have f20 := h19
              try simp only [decide_eq_true_eq, decide_eq_false_iff_not, Bool.not_eq_true', Bool.not_eq_false', Int.not_lt, Int.not_le] at f20
              refine WR.off (Gf rfl rfl rfl h19) rfl rfl ?_
              refine WR.off (Gf rfl rfl rfl h19) rfl rfl ?_
              refine WR.off (Gf rfl rfl rfl h19) rfl rfl ?_
              refine WR.val (Gt rfl rfl rfl h16) rfl rfl (.pick_t rfl rfl h19 rfl) ?_
              refine WR.val (G0 rfl) rfl rfl (.pick_t rfl rfl h16 rfl) ?_
              refine WR.val (G0 rfl) rfl rfl (.assign rfl rfl) ?_
              refine WR.nil ?_
              exact WA.ret1 rfl rfl (List.nil_sublist _) ⟨by congr 1; rw [Bool.eq_iff_iff]; simp_all [nvalid, droot, Dot.eq_iff]; try (intros; omega), rfl⟩
            · have f21 := h19
              try simp only [decide_eq_true_eq, decide_eq_false_iff_not, Bool.not_eq_true', Bool.not_eq_false', Int.not_lt, Int.not_le] at f21
              refine WR.val (Gt rfl rfl rfl h19) rfl rfl (.fa rfl FA_42_3 rfl) ?_
              refine WR.val (Gt rfl rfl rfl h19) rfl rfl (.load1 rfl NA_21 rfl (fun _ hw => hw.rd_blk (k := 1) 0 rfl rfl)) ?_
              refine WR.dw (Gt rfl rfl rfl h19) rfl rfl (.callv (caps := []) rfl rfl rfl EN_59 (fun w hw => jisruneF _ w)) ?_
              rintro _ _ ⟨rfl, rfl⟩
              refine WR.val (Gt rfl rfl rfl h16) rfl rfl (.pick_f rfl rfl h19 rfl) ?_
              refine WR.val (G0 rfl) rfl rfl (.pick_t rfl rfl h16 rfl) ?_
              refine WR.val (G0 rfl) rfl rfl (.assign rfl rfl) ?_
              refine WR.nil ?_
              exact WA.ret1 rfl rfl (List.nil_sublist _) ⟨by congr 1; rw [Bool.eq_iff_iff]; simp_all [nvalid, droot, Dot.eq_iff]; try (intros; omega), rfl⟩
          · have f23 := h16
            try simp only [decide_eq_true_eq, decide_eq_false_iff_not, Bool.not_eq_true', Bool.not_eq_false', Int.not_lt, Int.not_le] at f23
            refine WR.off (Gf rfl rfl rfl h16) rfl rfl ?_
            refine WR.off (Gf rfl rfl rfl h16) rfl rfl ?_
            refine WR.off (Gf rfl rfl rfl h16) rfl rfl ?_
            refine WR.off (Gf rfl rfl rfl h16) rfl rfl ?_
            refine WR.off (Gu rfl rfl rfl) rfl rfl ?_
            refine WR.off (Gu rfl rfl rfl) rfl rfl ?_
            refine WR.off (Gu rfl rfl rfl) rfl rfl ?_
            refine WR.off (Gf rfl rfl rfl h16) rfl rfl ?_
            refine WR.val (G0 rfl) rfl rfl (.pick_f rfl rfl h16 rfl) ?_
            refine WR.val (G0 rfl) rfl rfl (.assign rfl rfl) ?_
            refine WR.nil ?_
            exact WA.ret1 rfl rfl (List.nil_sublist _) ⟨by congr 1; rw [Bool.eq_iff_iff]; simp_all [nvalid, droot, Dot.eq_iff]; try (intros; omega), rfl⟩
        · have f24 := h13
          try simp only [decide_eq_true_eq, decide_eq_false_iff_not, Bool.not_eq_true', Bool.not_eq_false', Int.not_lt, Int.not_le] at f24
          refine WR.off (Gf rfl rfl rfl h13) rfl rfl ?_
          refine WR.off (Gf rfl rfl rfl h13) rfl rfl ?_
          refine WR.off (Gf rfl rfl rfl h13) rfl rfl ?_
          refine WR.val (G0 rfl) rfl rfl (.pick_f rfl rfl h13 rfl) ?_
          refine WR.val (G0 rfl) rfl rfl (.move rfl rfl) ?_
          refine WR.off (Gf rfl rfl rfl rfl) rfl rfl ?_
          refine WR.off (Gf rfl rfl rfl rfl) rfl rfl ?_
          refine WR.off (Gf rfl rfl rfl rfl) rfl rfl ?_
          refine WR.off (Gf rfl rfl rfl rfl) rfl rfl ?_
          refine WR.off (Gu rfl rfl rfl) rfl rfl ?_
          refine WR.off (Gu rfl rfl rfl) rfl rfl ?_
          refine WR.off (Gu rfl rfl rfl) rfl rfl ?_
          refine WR.off (Gf rfl rfl rfl rfl) rfl rfl ?_
          refine WR.val (G0 rfl) rfl rfl (.pick_f rfl rfl rfl rfl) ?_
          refine WR.val (G0 rfl) rfl rfl (.assign rfl rfl) ?_
          refine WR.nil ?_
          exact WA.ret1 rfl rfl (List.nil_sublist _) ⟨by congr 1; rw [Bool.eq_iff_iff]; simp_all [nvalid, droot, Dot.eq_iff]; try (intros; omega), rfl⟩
      · have f25 := h10
        try simp only [decide_eq_true_eq, decide_eq_false_iff_not, Bool.not_eq_true', Bool.not_eq_false', Int.not_lt, Int.not_le] at f25
        refine WR.off (Gf rfl rfl rfl h10) rfl rfl ?_
        refine WR.off (Gf rfl rfl rfl h10) rfl rfl ?_
        refine WR.off (Gf rfl rfl rfl h10) rfl rfl ?_
        refine WR.val (G0 rfl) rfl rfl (.pick_f rfl rfl h10 rfl) ?_
        refine WR.val (G0 rfl) rfl rfl (.move rfl rfl) ?_
        refine WR.off (Gf rfl rfl rfl rfl) rfl rfl ?_
        refine WR.off (Gf rfl rfl rfl rfl) rfl rfl ?_
        refine WR.off (Gf rfl rfl rfl rfl) rfl rfl ?_
        refine WR.val (G0 rfl) rfl rfl (.pick_f rfl rfl rfl rfl) ?_
        refine WR.val (G0 rfl) rfl rfl (.move rfl rfl) ?_
        refine WR.off (Gf rfl rfl rfl rfl) rfl rfl ?_
        refine WR.off (Gf rfl rfl rfl rfl) rfl rfl ?_
        refine WR.off (Gf rfl rfl rfl rfl) rfl rfl ?_
        refine WR.off (Gf rfl rfl rfl rfl) rfl rfl ?_
        refine WR.off (Gu rfl rfl rfl) rfl rfl ?_
        refine WR.off (Gu rfl rfl rfl) rfl rfl ?_
        refine WR.off (Gu rfl rfl rfl) rfl rfl ?_
        refine WR.off (Gf rfl rfl rfl rfl) rfl rfl ?_
        refine WR.val (G0 rfl) rfl rfl (.pick_f rfl rfl rfl rfl) ?_
        refine WR.val (G0 rfl) rfl rfl (.assign rfl rfl) ?_
        refine WR.nil ?_
        exact WA.ret1 rfl rfl (List.nil_sublist _) ⟨by congr 1; rw [Bool.eq_iff_iff]; simp_all [nvalid, droot, Dot.eq_iff]; try (intros; omega), rfl⟩
    · have f26 := h7
      try simp only [decide_eq_true_eq, decide_eq_false_iff_not, Bool.not_eq_true', Bool.not_eq_false', Int.not_lt, Int.not_le] at f26
      refine WR.val (Gt rfl rfl rfl h7) rfl rfl (.fa rfl FA_42_1 rfl) ?_
      refine WR.val (Gt rfl rfl rfl h7) rfl rfl (.loadK (vs := [_, _]) rfl AG_39 rfl (fun _ hw => hw.rd_blk (k := 2) 0 rfl rfl)) ?_
      refine WR.dw (Gt rfl rfl rfl h7) rfl rfl (.callv (caps := []) rfl rfl rfl EN_112 (fun w hw => jisdotF _ w)) ?_
      rintro _ _ ⟨rfl, rfl⟩
      refine WR.val (Gt rfl rfl rfl h4) rfl rfl (.pick_f rfl rfl h7 rfl) ?_
      refine WR.val (G0 rfl) rfl rfl (.pick_t rfl rfl h4 rfl) ?_
      refine WR.val (G0 rfl) rfl rfl (.move rfl rfl) ?_
      refine WR.split (d := 17) rfl (fun h28 => ?_) (fun h28 => ?_)
      · have f29 := h28
        try simp only [decide_eq_true_eq, decide_eq_false_iff_not, Bool.not_eq_true', Bool.not_eq_false', Int.not_lt, Int.not_le] at f29
        refine WR.val (Gt rfl rfl rfl h28) rfl rfl (.fa rfl FA_42_1 rfl) ?_
        refine WR.val (Gt rfl rfl rfl h28) rfl rfl (.loadK (vs := [_, _]) rfl AG_39 rfl (fun _ hw => hw.rd_blk (k := 2) 0 rfl rfl)) ?_
        refine WR.val (Gt rfl rfl rfl h28) rfl rfl (.fa rfl FA_42_0 rfl) ?_
        refine WR.val (Gt rfl rfl rfl h28) rfl rfl (.loadK (vs := [_, _]) rfl AG_39 rfl (fun _ hw => hw.rd_blk (k := 2) 0 rfl rfl)) ?_
        refine WR.val (Gt rfl rfl rfl h28) rfl rfl (.bin rfl rfl rfl EQT_neq_39) ?_
        refine WR.val (G0 rfl) rfl rfl (.pick_t rfl rfl h28 rfl) ?_
        refine WR.val (G0 rfl) rfl rfl (.move rfl rfl) ?_
        refine WR.split (d := 24) rfl (fun h31 => ?_) (fun h31 => ?_)
        · have f32 := h31
          try simp only [decide_eq_true_eq, decide_eq_false_iff_not, Bool.not_eq_true', Bool.not_eq_false', Int.not_lt, Int.not_le] at f32
          refine WR.val (Gt rfl rfl rfl h31) rfl rfl (.fa rfl FA_42_2 rfl) ?_
          refine WR.val (Gt rfl rfl rfl h31) rfl rfl (.load1 rfl NA_3 rfl (fun _ hw => hw.rd_blk (k := 1) 0 rfl rfl)) ?_
          refine WR.val (Gt rfl rfl rfl h31) rfl rfl (.geq rfl rfl rfl) ?_
          refine WR.val (G0 rfl) rfl rfl (.pick_t rfl rfl h31 rfl) ?_
          refine WR.val (G0 rfl) rfl rfl (.move rfl rfl) ?_
          refine WR.split (d := 29) rfl (fun h34 => ?_) (fun h34 => ?_)
          · have f35 := h34
            try simp only [decide_eq_true_eq, decide_eq_false_iff_not, Bool.not_eq_true', Bool.not_eq_false', Int.not_lt, Int.not_le] at f35
            refine WR.val (Gt rfl rfl rfl h34) rfl rfl (.fa rfl FA_42_2 rfl) ?_
            refine WR.val (Gt rfl rfl rfl h34) rfl rfl (.load1 rfl NA_3 rfl (fun _ hw => hw.rd_blk (k := 1) 0 rfl rfl)) ?_
            refine WR.val (Gt rfl rfl rfl h34) rfl rfl (.leq rfl rfl rfl) ?_
            refine WR.val (G0 rfl) rfl rfl (.pick_t rfl rfl h34 rfl) ?_
            refine WR.val (G0 rfl) rfl rfl (.move rfl rfl) ?_
            refine WR.split (d := 34) rfl (fun h37 => ?_) (fun h37 => ?_)
            · have f38 := h37
              try simp only [decide_eq_true_eq, decide_eq_false_iff_not, Bool.not_eq_true', Bool.not_eq_false', Int.not_lt, Int.not_le] at f38
              refine WR.val (Gt rfl rfl rfl h37) rfl rfl (.fa rfl FA_42_3 rfl) ?_
              refine WR.val (Gt rfl rfl rfl h37) rfl rfl (.load1 rfl NA_21 rfl (fun _ hw => hw.rd_blk (k := 1) 0 rfl rfl)) ?_
              refine WR.val (Gt rfl rfl rfl h37) rfl rfl (.eql rfl rfl rfl) ?_
              refine WR.val (Gt rfl rfl rfl h37) rfl rfl (.move rfl rfl) ?_
              refine WR.split (d := 38) rfl (fun h40 => ?_) (fun h40 => ?_)
              · have f41 := h40
                try simp only [decide_eq_true_eq, decide_eq_false_iff_not, Bool.not_eq_true', Bool.not_eq_false', Int.not_lt, Int.not_le] at f41
                refine WR.off (Gf rfl rfl rfl h40) rfl rfl ?_
                refine WR.off (Gf rfl rfl rfl h40) rfl rfl ?_
                refine WR.off (Gf rfl rfl rfl h40) rfl rfl ?_
                refine WR.val (Gt rfl rfl rfl h37) rfl rfl (.pick_t rfl rfl h40 rfl) ?_
                refine WR.val (G0 rfl) rfl rfl (.pick_t rfl rfl h37 rfl) ?_
                refine WR.val (G0 rfl) rfl rfl (.assign rfl rfl) ?_
                refine WR.nil ?_
                exact WA.ret1 rfl rfl (List.nil_sublist _) ⟨by congr 1; rw [Bool.eq_iff_iff]; simp_all [nvalid, droot, Dot.eq_iff]; try (intros; omega), rfl⟩
              · have f42 := h40
                try simp only [decide_eq_true_eq, decide_eq_false_iff_not, Bool.not_eq_true', Bool.not_eq_false', Int.not_lt, Int.not_le] at f42
                refine WR.val (Gt rfl rfl rfl h40) rfl rfl (.fa rfl FA_42_3 rfl) ?_
                refine WR.val (Gt rfl rfl rfl h40) rfl rfl (.load1 rfl NA_21 rfl (fun _ hw => hw.rd_blk (k := 1) 0 rfl rfl)) ?_
                refine WR.dw (Gt rfl rfl rfl h40) rfl rfl (.callv (caps := []) rfl rfl rfl EN_59 (fun w hw => jisruneF _ w)) ?_
                rintro _ _ ⟨rfl, rfl⟩
                refine WR.val (Gt rfl rfl rfl h37) rfl rfl (.pick_f rfl rfl h40 rfl) ?_
                refine WR.val (G0 rfl) rfl rfl (.pick_t rfl rfl h37 rfl) ?_
                refine WR.val (G0 rfl) rfl rfl (.assign rfl rfl) ?_
                refine WR.nil ?_
                exact WA.ret1 rfl rfl (List.nil_sublist _) ⟨by congr 1; rw [Bool.eq_iff_iff]; simp_all [nvalid, droot, Dot.eq_iff]; try (intros; omega), rfl⟩
            · have f44 := h37
              try simp only [decide_eq_true_eq, decide_eq_false_iff_not, Bool.not_eq_true', Bool.not_eq_false', Int.not_lt, Int.not_le] at f44
              refine WR.off (Gf rfl rfl rfl h37) rfl rfl ?_
              refine WR.off (Gf rfl rfl rfl h37) rfl rfl ?_
              refine WR.off (Gf rfl rfl rfl h37) rfl rfl ?_
              refine WR.off (Gf rfl rfl rfl h37) rfl rfl ?_
              refine WR.off (Gu rfl rfl rfl) rfl rfl ?_
              refine WR.off (Gu rfl rfl rfl) rfl rfl ?_
              refine WR.off (Gu rfl rfl rfl) rfl rfl ?_
              refine WR.off (Gf rfl rfl rfl h37) rfl rfl ?_
              refine WR.val (G0 rfl) rfl rfl (.pick_f rfl rfl h37 rfl) ?_
              refine WR.val (G0 rfl) rfl rfl (.assign rfl rfl) ?_
              refine WR.nil ?_
              exact WA.ret1 rfl rfl (List.nil_sublist _) ⟨by congr 1; rw [Bool.eq_iff_iff]; simp_all [nvalid, droot, Dot.eq_iff]; try (intros; omega), rfl⟩
          · have f45 := h34
            try simp only [decide_eq_true_eq, decide_eq_false_iff_not, Bool.not_eq_true', Bool.not_eq_false', Int.not_lt, Int.not_le] at f45
            refine WR.off (Gf rfl rfl rfl h34) rfl rfl ?_
            refine WR.off (Gf rfl rfl rfl h34) rfl rfl ?_
            refine WR.off (Gf rfl rfl rfl h34) rfl rfl ?_
            refine WR.val (G0 rfl) rfl rfl (.pick_f rfl rfl h34 rfl) ?_
            refine WR.val (G0 rfl) rfl rfl (.move rfl rfl) ?_
            refine WR.off (Gf rfl rfl rfl rfl) rfl rfl ?_
            refine WR.off (Gf rfl rfl rfl rfl) rfl rfl ?_
            refine WR.off (Gf rfl rfl rfl rfl) rfl rfl ?_
            refine WR.off (Gf rfl rfl rfl rfl) rfl rfl ?_
            refine WR.off (Gu rfl rfl rfl) rfl rfl ?_
            refine WR.off (Gu rfl rfl rfl) rfl rfl ?_
            refine WR.off (Gu rfl rfl rfl) rfl rfl ?_
            refine WR.off (Gf rfl rfl rfl rfl) rfl rfl ?_
            refine WR.val (G0 rfl) rfl rfl (.pick_f rfl rfl rfl rfl) ?_
            refine WR.val (G0 rfl) rfl rfl (.assign rfl rfl) ?_
            refine WR.nil ?_
            exact WA.ret1 rfl rfl (List.nil_sublist _) ⟨by congr 1; rw [Bool.eq_iff_iff]; simp_all [nvalid, droot, Dot.eq_iff]; try (intros; omega), rfl⟩
        · have f46 := h31
          try simp only [decide_eq_true_eq, decide_eq_false_iff_not, Bool.not_eq_true', Bool.not_eq_false', Int.not_lt, Int.not_le] at f46
          refine WR.off (Gf rfl rfl rfl h31) rfl rfl ?_
          refine WR.off (Gf rfl rfl rfl h31) rfl rfl ?_
          refine WR.off (Gf rfl rfl rfl h31) rfl rfl ?_
          refine WR.val (G0 rfl) rfl rfl (.pick_f rfl rfl h31 rfl) ?_
          refine WR.val (G0 rfl) rfl rfl (.move rfl rfl) ?_
          refine WR.off (Gf rfl rfl rfl rfl) rfl rfl ?_
          refine WR.off (Gf rfl rfl rfl rfl) rfl rfl ?_
          refine WR.off (Gf rfl rfl rfl rfl) rfl rfl ?_
          refine WR.val (G0 rfl) rfl rfl (.pick_f rfl rfl rfl rfl) ?_
          refine WR.val (G0 rfl) rfl rfl (.move rfl rfl) ?_
          refine WR.off (Gf rfl rfl rfl rfl) rfl rfl ?_
          refine WR.off (Gf rfl rfl rfl rfl) rfl rfl ?_
          refine WR.off (Gf rfl rfl rfl rfl) rfl rfl ?_
          refine WR.off (Gf rfl rfl rfl rfl) rfl rfl ?_
          refine WR.off (Gu rfl rfl rfl) rfl rfl ?_
          refine WR.off (Gu rfl rfl rfl) rfl rfl ?_
          refine WR.off (Gu rfl rfl rfl) rfl rfl ?_
          refine WR.off (Gf rfl rfl rfl rfl) rfl rfl ?_
          refine WR.val (G0 rfl) rfl rfl (.pick_f rfl rfl rfl rfl) ?_
          refine WR.val (G0 rfl) rfl rfl (.assign rfl rfl) ?_
          refine WR.nil ?_
          exact WA.ret1 rfl rfl (List.nil_sublist _) ⟨by congr 1; rw [Bool.eq_iff_iff]; simp_all [nvalid, droot, Dot.eq_iff]; try (intros; omega), rfl⟩
      · have f47 := h28
        try simp only [decide_eq_true_eq, decide_eq_false_iff_not, Bool.not_eq_true', Bool.not_eq_false', Int.not_lt, Int.not_le] at f47
        refine WR.off (Gf rfl rfl rfl h28) rfl rfl ?_
        refine WR.off (Gf rfl rfl rfl h28) rfl rfl ?_
        refine WR.off (Gf rfl rfl rfl h28) rfl rfl ?_
        refine WR.off (Gf rfl rfl rfl h28) rfl rfl ?_
        refine WR.off (Gf rfl rfl rfl h28) rfl rfl ?_
        refine WR.val (G0 rfl) rfl rfl (.pick_f rfl rfl h28 rfl) ?_
        refine WR.val (G0 rfl) rfl rfl (.move rfl rfl) ?_
        refine WR.off (Gf rfl rfl rfl rfl) rfl rfl ?_
        refine WR.off (Gf rfl rfl rfl rfl) rfl rfl ?_
        refine WR.off (Gf rfl rfl rfl rfl) rfl rfl ?_
        refine WR.val (G0 rfl) rfl rfl (.pick_f rfl rfl rfl rfl) ?_
        refine WR.val (G0 rfl) rfl rfl (.move rfl rfl) ?_
        refine WR.off (Gf rfl rfl rfl rfl) rfl rfl ?_
        refine WR.off (Gf rfl rfl rfl rfl) rfl rfl ?_
        refine WR.off (Gf rfl rfl rfl rfl) rfl rfl ?_
        refine WR.val (G0 rfl) rfl rfl (.pick_f rfl rfl rfl rfl) ?_
        refine WR.val (G0 rfl) rfl rfl (.move rfl rfl) ?_
        refine WR.off (Gf rfl rfl rfl rfl) rfl rfl ?_
        refine WR.off (Gf rfl rfl rfl rfl) rfl rfl ?_
        refine WR.off (Gf rfl rfl rfl rfl) rfl rfl ?_
        refine WR.off (Gf rfl rfl rfl rfl) rfl rfl ?_
        refine WR.off (Gu rfl rfl rfl) rfl rfl ?_
        refine WR.off (Gu rfl rfl rfl) rfl rfl ?_
        refine WR.off (Gu rfl rfl rfl) rfl rfl ?_
        refine WR.off (Gf rfl rfl rfl rfl) rfl rfl ?_
        refine WR.val (G0 rfl) rfl rfl (.pick_f rfl rfl rfl rfl) ?_
        refine WR.val (G0 rfl) rfl rfl (.assign rfl rfl) ?_
        refine WR.nil ?_
        exact WA.ret1 rfl rfl (List.nil_sublist _) ⟨by congr 1; rw [Bool.eq_iff_iff]; simp_all [nvalid, droot, Dot.eq_iff]; try (intros; omega), rfl⟩
  · have f48 := h4
    try simp only [decide_eq_true_eq, decide_eq_false_iff_not, Bool.not_eq_true', Bool.not_eq_false', Int.not_lt, Int.not_le] at f48
    refine WR.off (Gf rfl rfl rfl h4) rfl rfl ?_
    refine WR.off (Gf rfl rfl rfl h4) rfl rfl ?_
    refine WR.off (Gf rfl rfl rfl h4) rfl rfl ?_
    refine WR.off (Gf rfl rfl rfl h4) rfl rfl ?_
    refine WR.off (Gf rfl rfl rfl h4) rfl rfl ?_
    refine WR.off (Gu rfl rfl rfl) rfl rfl ?_
    refine WR.off (Gu rfl rfl rfl) rfl rfl ?_
    refine WR.off (Gu rfl rfl rfl) rfl rfl ?_
    refine WR.off (Gf rfl rfl rfl h4) rfl rfl ?_
    refine WR.val (G0 rfl) rfl rfl (.pick_f rfl rfl h4 rfl) ?_
    refine WR.val (G0 rfl) rfl rfl (.move rfl rfl) ?_
    refine WR.off (Gf rfl rfl rfl rfl) rfl rfl ?_
    refine WR.off (Gf rfl rfl rfl rfl) rfl rfl ?_
    refine WR.off (Gf rfl rfl rfl rfl) rfl rfl ?_
    refine WR.off (Gf rfl rfl rfl rfl) rfl rfl ?_
    refine WR.off (Gf rfl rfl rfl rfl) rfl rfl ?_
    refine WR.val (G0 rfl) rfl rfl (.pick_f rfl rfl rfl rfl) ?_
    refine WR.val (G0 rfl) rfl rfl (.move rfl rfl) ?_
    refine WR.off (Gf rfl rfl rfl rfl) rfl rfl ?_
    refine WR.off (Gf rfl rfl rfl rfl) rfl rfl ?_
    refine WR.off (Gf rfl rfl rfl rfl) rfl rfl ?_
    refine WR.val (G0 rfl) rfl rfl (.pick_f rfl rfl rfl rfl) ?_
    refine WR.val (G0 rfl) rfl rfl (.move rfl rfl) ?_
    refine WR.off (Gf rfl rfl rfl rfl) rfl rfl ?_
    refine WR.off (Gf rfl rfl rfl rfl) rfl rfl ?_
    refine WR.off (Gf rfl rfl rfl rfl) rfl rfl ?_
    refine WR.val (G0 rfl) rfl rfl (.pick_f rfl rfl rfl rfl) ?_
    refine WR.val (G0 rfl) rfl rfl (.move rfl rfl) ?_
    refine WR.off (Gf rfl rfl rfl rfl) rfl rfl ?_
    refine WR.off (Gf rfl rfl rfl rfl) rfl rfl ?_
    refine WR.off (Gf rfl rfl rfl rfl) rfl rfl ?_
    refine WR.off (Gf rfl rfl rfl rfl) rfl rfl ?_
    refine WR.off (Gu rfl rfl rfl) rfl rfl ?_
    refine WR.off (Gu rfl rfl rfl) rfl rfl ?_
    refine WR.off (Gu rfl rfl rfl) rfl rfl ?_
    refine WR.off (Gf rfl rfl rfl rfl) rfl rfl ?_
    refine WR.val (G0 rfl) rfl rfl (.pick_f rfl rfl rfl rfl) ?_
    refine WR.val (G0 rfl) rfl rfl (.assign rfl rfl) ?_
    refine WR.nil ?_
    exact WA.ret1 rfl rfl (List.nil_sublist _) ⟨by congr 1; rw [Bool.eq_iff_iff]; simp_all [nvalid, droot, Dot.eq_iff]; try (intros; omega), rfl⟩
set_option maxRecDepth 20000 in
/-- redpencil/redpencilref14.Store -/
theorem jstoreF (l : List Nd) (A : Option Addr) (cap : Nat) (w : World) (hS : SlN w A l) (hl : l.length ≤ 800000) : Ct Tryz.prog 54 #[.slice A l.length cap] [] w (fun u hs => u = .bool (storeOk l) ∧ hs = []) := by
  refine Ct.intro Tryz.func54 rfl Tryz.ntmps54 rfl ?_
  refine WA.seq ?_
  refine WA.region ?_
  refine WR.val (G0 rfl) rfl rfl (.assign rfl rfl) ?_
  refine WR.nil ?_
  refine WA.seq ?_
  refine WA.seq ?_
  refine WA.region ?_
  refine WR.val (G0 rfl) rfl rfl (.assign rfl rfl) ?_
  refine WR.nil ?_
  refine WA.block ?_
  refine WA.loopK (γ := Nat) [(0, _)] [] (fun k => [(3, .int .i64 (k : Int))]) (fun k => []) (fun k => k ≤ l.length ∧ ∀ j : Nat, j < k → okAt l j) (fun k => l.length - k) 0 (.cons rfl (.nil _)) (.cons rfl (.nil _)) .slnil ⟨by omega, fun _ h => absurd h (by omega)⟩ ?_
  intro k hk
  obtain ⟨hk, hd⟩ := hk
  refine WA.seq ?_
  refine WA.seq ?_
  refine WA.region ?_
  refine WR.val (G0 rfl) rfl rfl (.move rfl rfl) ?_
  refine WR.val (G0 rfl) rfl rfl (.move rfl rfl) ?_
  refine WR.val (G0 rfl) rfl rfl (.len rfl ST_23.1 rfl) ?_
  refine WR.val (G0 rfl) rfl rfl (.lss rfl rfl rfl) ?_
  refine WR.nil ?_
  refine WA.cond rfl (fun h2 => ?_) (fun h2 => ?_)
  · have f3 := h2
    try simp only [decide_eq_true_eq, decide_eq_false_iff_not, Bool.not_eq_true', Bool.not_eq_false', Int.not_lt, Int.not_le] at f3
    refine WA.skip ?_
    refine WA.seq ?_
    refine WA.block ?_
    refine WA.seq ?_
    refine WA.draws0 follows ?_
    refine WH.take 0 rfl (Pf_blind _ _ _ _ _) (by kernel_rfl) (by kernel_rfl) (by kernel_rfl) .slnil (G0 rfl) rfl rfl (.move rfl rfl) ?_
    refine WH.take 1 rfl (Pf_blind _ _ _ _ _) (by kernel_rfl) (by kernel_rfl) (by kernel_rfl) .slnil (G0 rfl) rfl rfl (.move rfl rfl) ?_
    refine WH.take 2 rfl (Pf_blind _ _ _ _ _) (by kernel_rfl) (by kernel_rfl) (by kernel_rfl) .slnil (G0 rfl) rfl rfl (.ix rfl ST_23 rfl rfl (by omega) (by omega) (fun _ hw hn => (hw.slf0 hS).some_ hn)) ?_
    refine WH.take 3 rfl (Pf_blind _ _ _ _ _) (by kernel_rfl) (by kernel_rfl) (by kernel_rfl) .slnil (G0 rfl) rfl rfl (.loadK (vs := [_, _, _, _, _, _]) rfl AG_42 rfl (fun _ hw => rdN (hw.slf0 hS) (by omega) (by omega))) ?_
    refine WH.dw 4 rfl (by kernel_rfl) (G0 rfl) rfl rfl (.callv (caps := []) rfl rfl rfl EN_128 (fun w hw => jisnodeF _ w)) ?_
    rintro _ _ ⟨rfl, rfl⟩
    refine ⟨.slnil, ?_⟩
    refine WH.take 5 rfl (Pf_blind _ _ _ _ _) (by kernel_rfl) (by kernel_rfl) (by kernel_rfl) .slnil (G0 rfl) rfl rfl (.not rfl rfl) ?_
    refine WH.take 6 rfl (Pf_blind _ _ _ _ _) (by kernel_rfl) (by kernel_rfl) (by kernel_rfl) .slnil (G0 rfl) rfl rfl (.move rfl rfl) ?_
    refine WH.split (d := 16) rfl (fun h7 => ?_) (fun h7 => ?_)
    · have f8 := h7
      try simp only [decide_eq_true_eq, decide_eq_false_iff_not, Bool.not_eq_true', Bool.not_eq_false', Int.not_lt, Int.not_le] at f8
      refine WH.off 7 rfl (Pf_blind _ _ _ _ _) (by kernel_rfl) (by kernel_rfl) (by kernel_rfl) .slnil (Gf rfl rfl rfl h7) rfl rfl ?_
      refine WH.off 8 rfl (Pf_blind _ _ _ _ _) (by kernel_rfl) (by kernel_rfl) (by kernel_rfl) .slnil (Gf rfl rfl rfl h7) rfl rfl ?_
      refine WH.off 9 rfl (Pf_blind _ _ _ _ _) (by kernel_rfl) (by kernel_rfl) (by kernel_rfl) .slnil (Gf rfl rfl rfl h7) rfl rfl ?_
      refine WH.off 10 rfl (Pf_blind _ _ _ _ _) (by kernel_rfl) (by kernel_rfl) (by kernel_rfl) .slnil (Gu rfl rfl rfl) rfl rfl ?_
      refine WH.off 11 rfl (Pf_blind _ _ _ _ _) (by kernel_rfl) (by kernel_rfl) (by kernel_rfl) .slnil (Gu rfl rfl rfl) rfl rfl ?_
      refine WH.off 12 rfl (Pf_blind _ _ _ _ _) (by kernel_rfl) (by kernel_rfl) (by kernel_rfl) .slnil (Gu rfl rfl rfl) rfl rfl ?_
      refine WH.off 13 rfl (Pf_blind _ _ _ _ _) (by kernel_rfl) (by kernel_rfl) (by kernel_rfl) .slnil (Gu rfl rfl rfl) rfl rfl ?_
      refine WH.off 14 rfl (Pf_blind _ _ _ _ _) (by kernel_rfl) (by kernel_rfl) (by kernel_rfl) .slnil (Gu rfl rfl rfl) rfl rfl ?_
      refine WH.off 15 rfl (Pf_blind _ _ _ _ _) (by kernel_rfl) (by kernel_rfl) (by kernel_rfl) .slnil (Gu rfl rfl rfl) rfl rfl ?_
      refine WH.off 16 rfl (Pf_blind _ _ _ _ _) (by kernel_rfl) (by kernel_rfl) (by kernel_rfl) .slnil (Gu rfl rfl rfl) rfl rfl ?_
      refine WH.off 17 rfl (Pf_blind _ _ _ _ _) (by kernel_rfl) (by kernel_rfl) (by kernel_rfl) .slnil (Gu rfl rfl rfl) rfl rfl ?_
      refine WH.off 18 rfl (Pf_blind _ _ _ _ _) (by kernel_rfl) (by kernel_rfl) (by kernel_rfl) .slnil (Gu rfl rfl rfl) rfl rfl ?_
      refine WH.off 19 rfl (Pf_blind _ _ _ _ _) (by kernel_rfl) (by kernel_rfl) (by kernel_rfl) .slnil (Gu rfl rfl rfl) rfl rfl ?_
      refine WH.off 20 rfl (Pf_blind _ _ _ _ _) (by kernel_rfl) (by kernel_rfl) (by kernel_rfl) .slnil (Gu rfl rfl rfl) rfl rfl ?_
      refine WH.off 21 rfl (Pf_blind _ _ _ _ _) (by kernel_rfl) (by kernel_rfl) (by kernel_rfl) .slnil (Gu rfl rfl rfl) rfl rfl ?_
      refine WH.off 22 rfl (Pf_blind _ _ _ _ _) (by kernel_rfl) (by kernel_rfl) (by kernel_rfl) .slnil (Gu rfl rfl rfl) rfl rfl ?_
      refine WH.off 23 rfl (Pf_blind _ _ _ _ _) (by kernel_rfl) (by kernel_rfl) (by kernel_rfl) .slnil (Gf rfl rfl rfl h7) rfl rfl ?_
      refine WH.take 24 rfl (Pf_blind _ _ _ _ _) (by kernel_rfl) (by kernel_rfl) (by kernel_rfl) .slnil (G0 rfl) rfl rfl (.pick_t rfl rfl h7 rfl) ?_
      refine WH.done (by kernel_rfl) ?_
      refine WA.cond_t rfl rfl ?_
      refine WA.seq ?_
      refine WA.region ?_
      refine WR.val (G0 rfl) rfl rfl (.assign rfl rfl) ?_
      refine WR.nil ?_
      exact WA.ret1 rfl rfl (List.nil_sublist _) ⟨by rw [storeOk_not (i := k) (by omega) (by simp_all [okAt] <;> omega)], rfl⟩
    · have f9 := h7
      try simp only [decide_eq_true_eq, decide_eq_false_iff_not, Bool.not_eq_true', Bool.not_eq_false', Int.not_lt, Int.not_le] at f9
      refine WH.take 7 rfl (Pf_blind _ _ _ _ _) (by kernel_rfl) (by kernel_rfl) (by kernel_rfl) .slnil (Gt rfl rfl rfl h7) rfl rfl (.move rfl rfl) ?_
      refine WH.take 8 rfl (Pf_blind _ _ _ _ _) (by kernel_rfl) (by kernel_rfl) (by kernel_rfl) .slnil (Gt rfl rfl rfl h7) rfl rfl (.gtr rfl rfl rfl) ?_
      refine WH.take 9 rfl (Pf_blind _ _ _ _ _) (by kernel_rfl) (by kernel_rfl) (by kernel_rfl) .slnil (Gt rfl rfl rfl h7) rfl rfl (.move rfl rfl) ?_
      refine WH.split (d := 19) rfl (fun h11 => ?_) (fun h11 => ?_)
      · have f12 := h11
        try simp only [decide_eq_true_eq, decide_eq_false_iff_not, Bool.not_eq_true', Bool.not_eq_false', Int.not_lt, Int.not_le] at f12
        refine WH.take 10 rfl (Pf_blind _ _ _ _ _) (by kernel_rfl) (by kernel_rfl) (by kernel_rfl) .slnil (Gt rfl rfl rfl h11) rfl rfl (.move rfl rfl) ?_
        refine WH.take 11 rfl (Pf_blind _ _ _ _ _) (by kernel_rfl) (by kernel_rfl) (by kernel_rfl) .slnil (Gt rfl rfl rfl h11) rfl rfl (.move rfl rfl) ?_
        refine WH.take 12 rfl (Pf_blind _ _ _ _ _) (by kernel_rfl) (by kernel_rfl) (by kernel_rfl) .slnil (Gt rfl rfl rfl h11) rfl rfl (.sub rfl rfl rfl (by omega) (by omega)) ?_
        refine WH.take 13 rfl (Pf_blind _ _ _ _ _) (by kernel_rfl) (by kernel_rfl) (by kernel_rfl) .slnil (Gt rfl rfl rfl h11) rfl rfl (.ix rfl ST_23 rfl rfl (by omega) (by omega) (fun _ hw hn => (hw.slf0 hS).some_ hn)) ?_
        refine WH.take 14 rfl (Pf_blind _ _ _ _ _) (by kernel_rfl) (by kernel_rfl) (by kernel_rfl) .slnil (Gt rfl rfl rfl h11) rfl rfl (.fe rfl FA_42_0 rfl) ?_
        refine WH.take 15 rfl (Pf_blind _ _ _ _ _) (by kernel_rfl) (by kernel_rfl) (by kernel_rfl) .slnil (Gt rfl rfl rfl h11) rfl rfl (.loadK (vs := [_, _]) rfl AG_39 rfl (fun _ hw => Rd.el (off := 0) (k := 2) (rdN (hw.slf0 hS) (by omega) (by omega)) rfl)) ?_
        refine WH.take 16 rfl (Pf_blind _ _ _ _ _) (by kernel_rfl) (by kernel_rfl) (by kernel_rfl) .slnil (Gt rfl rfl rfl h11) rfl rfl (.move rfl rfl) ?_
        refine WH.take 17 rfl (Pf_blind _ _ _ _ _) (by kernel_rfl) (by kernel_rfl) (by kernel_rfl) .slnil (Gt rfl rfl rfl h11) rfl rfl (.move rfl rfl) ?_
        refine WH.take 18 rfl (Pf_blind _ _ _ _ _) (by kernel_rfl) (by kernel_rfl) (by kernel_rfl) .slnil (Gt rfl rfl rfl h11) rfl rfl (.ix rfl ST_23 rfl rfl (by omega) (by omega) (fun _ hw hn => (hw.slf0 hS).some_ hn)) ?_
        refine WH.take 19 rfl (Pf_blind _ _ _ _ _) (by kernel_rfl) (by kernel_rfl) (by kernel_rfl) .slnil (Gt rfl rfl rfl h11) rfl rfl (.fe rfl FA_42_0 rfl) ?_
        refine WH.take 20 rfl (Pf_blind _ _ _ _ _) (by kernel_rfl) (by kernel_rfl) (by kernel_rfl) .slnil (Gt rfl rfl rfl h11) rfl rfl (.loadK (vs := [_, _]) rfl AG_39 rfl (fun _ hw => Rd.el (off := 0) (k := 2) (rdN (hw.slf0 hS) (by omega) (by omega)) rfl)) ?_
        refine WH.dw 21 rfl (by kernel_rfl) (Gt rfl rfl rfl h11) rfl rfl (.callv (caps := []) rfl rfl rfl EN_129 (fun w hw => jbeforeF _ _ w)) ?_
        rintro _ _ ⟨rfl, rfl⟩
        refine ⟨.slnil, ?_⟩
        refine WH.take 22 rfl (Pf_blind _ _ _ _ _) (by kernel_rfl) (by kernel_rfl) (by kernel_rfl) .slnil (Gt rfl rfl rfl h11) rfl rfl (.not rfl rfl) ?_
        refine WH.take 23 rfl (Pf_blind _ _ _ _ _) (by kernel_rfl) (by kernel_rfl) (by kernel_rfl) .slnil (Gt rfl rfl rfl h7) rfl rfl (.pick_t rfl rfl h11 rfl) ?_
        refine WH.take 24 rfl (Pf_blind _ _ _ _ _) (by kernel_rfl) (by kernel_rfl) (by kernel_rfl) .slnil (G0 rfl) rfl rfl (.pick_f rfl rfl h7 rfl) ?_
        refine WH.done (by kernel_rfl) ?_
        refine WA.cond rfl (fun h16 => ?_) (fun h16 => ?_)
        · have f17 := h16
          try simp only [decide_eq_true_eq, decide_eq_false_iff_not, Bool.not_eq_true', Bool.not_eq_false', Int.not_lt, Int.not_le] at f17
          refine WA.seq ?_
          refine WA.region ?_
          refine WR.val (G0 rfl) rfl rfl (.assign rfl rfl) ?_
          refine WR.nil ?_
          exact WA.ret1 rfl rfl (List.nil_sublist _) ⟨by rw [storeOk_not (i := k) (by omega) (by simp_all [okAt] <;> omega)], rfl⟩
        · have f18 := h16
          try simp only [decide_eq_true_eq, decide_eq_false_iff_not, Bool.not_eq_true', Bool.not_eq_false', Int.not_lt, Int.not_le] at f18
          refine WA.skip ?_
          refine WA.mark ?_
          refine WA.region ?_
          refine WR.val (G0 rfl) rfl rfl (.move rfl rfl) ?_
          refine WR.val (G0 rfl) rfl rfl (.add rfl rfl rfl (by omega) (by omega)) ?_
          refine WR.val (G0 rfl) rfl rfl (.assign rfl rfl) ?_
          refine WR.nil ?_
          exact WA.roundK (k + 1) (.cons rfl (.nil _)) (.cons rfl (.nil _)) .slnil ⟨by omega, lt_snoc hd (by simp_all [okAt] <;> omega)⟩ (by omega)
      · have f19 := h11
        try simp only [decide_eq_true_eq, decide_eq_false_iff_not, Bool.not_eq_true', Bool.not_eq_false', Int.not_lt, Int.not_le] at f19
        refine WH.off 10 rfl (Pf_blind _ _ _ _ _) (by kernel_rfl) (by kernel_rfl) (by kernel_rfl) .slnil (Gf rfl rfl rfl h11) rfl rfl ?_
        refine WH.off 11 rfl (Pf_blind _ _ _ _ _) (by kernel_rfl) (by kernel_rfl) (by kernel_rfl) .slnil (Gf rfl rfl rfl h11) rfl rfl ?_
        refine WH.off 12 rfl (Pf_blind _ _ _ _ _) (by kernel_rfl) (by kernel_rfl) (by kernel_rfl) .slnil (Gf rfl rfl rfl h11) rfl rfl ?_
        refine WH.off 13 rfl (Pf_blind _ _ _ _ _) (by kernel_rfl) (by kernel_rfl) (by kernel_rfl) .slnil (Gf rfl rfl rfl h11) rfl rfl ?_
        refine WH.off 14 rfl (Pf_blind _ _ _ _ _) (by kernel_rfl) (by kernel_rfl) (by kernel_rfl) .slnil (Gf rfl rfl rfl h11) rfl rfl ?_
        refine WH.off 15 rfl (Pf_blind _ _ _ _ _) (by kernel_rfl) (by kernel_rfl) (by kernel_rfl) .slnil (Gf rfl rfl rfl h11) rfl rfl ?_
        refine WH.off 16 rfl (Pf_blind _ _ _ _ _) (by kernel_rfl) (by kernel_rfl) (by kernel_rfl) .slnil (Gf rfl rfl rfl h11) rfl rfl ?_
        refine WH.off 17 rfl (Pf_blind _ _ _ _ _) (by kernel_rfl) (by kernel_rfl) (by kernel_rfl) .slnil (Gf rfl rfl rfl h11) rfl rfl ?_
        refine WH.off 18 rfl (Pf_blind _ _ _ _ _) (by kernel_rfl) (by kernel_rfl) (by kernel_rfl) .slnil (Gf rfl rfl rfl h11) rfl rfl ?_
        refine WH.off 19 rfl (Pf_blind _ _ _ _ _) (by kernel_rfl) (by kernel_rfl) (by kernel_rfl) .slnil (Gf rfl rfl rfl h11) rfl rfl ?_
        refine WH.off 20 rfl (Pf_blind _ _ _ _ _) (by kernel_rfl) (by kernel_rfl) (by kernel_rfl) .slnil (Gf rfl rfl rfl h11) rfl rfl ?_
        refine WH.off 21 rfl (Pf_blind _ _ _ _ _) (by kernel_rfl) (by kernel_rfl) (by kernel_rfl) .slnil (Gf rfl rfl rfl h11) rfl rfl ?_
        refine WH.off 22 rfl (Pf_blind _ _ _ _ _) (by kernel_rfl) (by kernel_rfl) (by kernel_rfl) .slnil (Gf rfl rfl rfl h11) rfl rfl ?_
        refine WH.take 23 rfl (Pf_blind _ _ _ _ _) (by kernel_rfl) (by kernel_rfl) (by kernel_rfl) .slnil (Gt rfl rfl rfl h7) rfl rfl (.pick_f rfl rfl h11 rfl) ?_
        refine WH.take 24 rfl (Pf_blind _ _ _ _ _) (by kernel_rfl) (by kernel_rfl) (by kernel_rfl) .slnil (G0 rfl) rfl rfl (.pick_f rfl rfl h7 rfl) ?_
        refine WH.done (by kernel_rfl) ?_
        refine WA.cond_f rfl rfl ?_
        refine WA.skip ?_
        refine WA.mark ?_
        refine WA.region ?_
        refine WR.val (G0 rfl) rfl rfl (.move rfl rfl) ?_
        refine WR.val (G0 rfl) rfl rfl (.add rfl rfl rfl (by omega) (by omega)) ?_
        refine WR.val (G0 rfl) rfl rfl (.assign rfl rfl) ?_
        refine WR.nil ?_
        exact WA.roundK (k + 1) (.cons rfl (.nil _)) (.cons rfl (.nil _)) .slnil ⟨by omega, lt_snoc hd (by simp_all [okAt] <;> omega)⟩ (by omega)
  · have f20 := h2
    try simp only [decide_eq_true_eq, decide_eq_false_iff_not, Bool.not_eq_true', Bool.not_eq_false', Int.not_lt, Int.not_le] at f20
    refine WA.exit rfl ?_
    refine WA.seq ?_
    refine WA.region ?_
    refine WR.val (G0 rfl) rfl rfl (.assign rfl rfl) ?_
    refine WR.nil ?_
    exact WA.ret1 rfl rfl (List.nil_sublist _) ⟨by rw [storeOk_iff.2 (fun i hi => hd i (by omega))], rfl⟩
set_option maxRecDepth 20000 in
/-- redpencil/redpencilref14.Find -/
theorem jfindF (l : List Nd) (A : Option Addr) (cap : Nat) (w : World) (hS : SlN w A l) (hl : l.length ≤ 800000) (d : Dot) : Ct Tryz.prog 114 #[.slice A l.length cap, dv d] [] w (fun u hs => u = .int .i64 (fnd l d) ∧ hs = []) := by
  refine Ct.intro Tryz.func114 rfl Tryz.ntmps114 rfl ?_
  refine WA.seq ?_
  refine WA.region ?_
  refine WR.dw (G0 rfl) rfl rfl (.box (vs := [_, _]) rfl rfl rfl) ?_
  rintro _ _ ⟨b2, rfl, rfl⟩
  refine WR.val (G0 rfl) rfl rfl (.assign rfl rfl) ?_
  refine WR.nil ?_
  refine WA.seq ?_
  refine WA.seq ?_
  refine WA.region ?_
  refine WR.val (G0 rfl) rfl rfl (.assign rfl rfl) ?_
  refine WR.nil ?_
  refine WA.block ?_
  refine WA.loopK (γ := Nat) [(0, _), (3, _)] [_] (fun k => [(5, .int .i64 (k : Int))]) (fun k => []) (fun k => k ≤ l.length ∧ ∀ j : Nat, j < k → ¬ (gx l (j : Int)).d = d) (fun k => l.length - k) 0 (.cons rfl (.cons rfl (.nil _))) (.cons rfl (.nil _)) (.refl _) ⟨by omega, fun _ h => absurd h (by omega)⟩ ?_
  intro k hk
  obtain ⟨hk, hd⟩ := hk
  refine WA.seq ?_
  refine WA.seq ?_
  refine WA.region ?_
  refine WR.val (G0 rfl) rfl rfl (.move rfl rfl) ?_
  refine WR.val (G0 rfl) rfl rfl (.move rfl rfl) ?_
  refine WR.val (G0 rfl) rfl rfl (.len rfl ST_23.1 rfl) ?_
  refine WR.val (G0 rfl) rfl rfl (.lss rfl rfl rfl) ?_
  refine WR.nil ?_
  refine WA.cond rfl (fun h4 => ?_) (fun h4 => ?_)
  · have f5 := h4
    try simp only [decide_eq_true_eq, decide_eq_false_iff_not, Bool.not_eq_true', Bool.not_eq_false', Int.not_lt, Int.not_le] at f5
    refine WA.skip ?_
    refine WA.seq ?_
    refine WA.block ?_
    refine WA.seq ?_
    refine WA.draws0 follows ?_
    refine WH.take 0 rfl (Pf_blind _ _ _ _ _) (by kernel_rfl) (by kernel_rfl) (by kernel_rfl) (.refl _) (G0 rfl) rfl rfl (.move rfl rfl) ?_
    refine WH.take 1 rfl (Pf_blind _ _ _ _ _) (by kernel_rfl) (by kernel_rfl) (by kernel_rfl) (.refl _) (G0 rfl) rfl rfl (.move rfl rfl) ?_
    refine WH.take 2 rfl (Pf_blind _ _ _ _ _) (by kernel_rfl) (by kernel_rfl) (by kernel_rfl) (.refl _) (G0 rfl) rfl rfl (.ix rfl ST_23 rfl rfl (by omega) (by omega) (fun _ hw hn => (hw.slf0 hS).some_ hn)) ?_
    refine WH.take 3 rfl (Pf_blind _ _ _ _ _) (by kernel_rfl) (by kernel_rfl) (by kernel_rfl) (.refl _) (G0 rfl) rfl rfl (.fe rfl FA_42_0 rfl) ?_
    refine WH.take 4 rfl (Pf_blind _ _ _ _ _) (by kernel_rfl) (by kernel_rfl) (by kernel_rfl) (.refl _) (G0 rfl) rfl rfl (.loadK (vs := [_, _]) rfl AG_39 rfl (fun _ hw => Rd.el (off := 0) (k := 2) (rdN (hw.slf0 hS) (by omega) (by omega)) rfl)) ?_
    refine WH.take 5 rfl (Pf_blind _ _ _ _ _) (by kernel_rfl) (by kernel_rfl) (by kernel_rfl) (.refl _) (G0 rfl) rfl rfl (.loadK (vs := [_, _]) rfl AG_39 rfl (fun _ hw => hw.rd_blk (k := 2) 0 rfl rfl)) ?_
    refine WH.take 6 rfl (Pf_blind _ _ _ _ _) (by kernel_rfl) (by kernel_rfl) (by kernel_rfl) (.refl _) (G0 rfl) rfl rfl (.bin rfl rfl rfl EQT_eql_39) ?_
    refine WH.done (by kernel_rfl) ?_
    refine WA.cond rfl (fun h7 => ?_) (fun h7 => ?_)
    · have f8 := h7
      try simp only [decide_eq_true_eq, decide_eq_false_iff_not, Bool.not_eq_true', Bool.not_eq_false', Int.not_lt, Int.not_le] at f8
      refine WA.seq ?_
      refine WA.region ?_
      refine WR.val (G0 rfl) rfl rfl (.move rfl rfl) ?_
      refine WR.val (G0 rfl) rfl rfl (.assign rfl rfl) ?_
      refine WR.nil ?_
      exact WA.ret1 rfl rfl (List.nil_sublist _) ⟨by rw [fnd_take (k := k) (by omega) hd (by assumption)], rfl⟩
    · have f9 := h7
      try simp only [decide_eq_true_eq, decide_eq_false_iff_not, Bool.not_eq_true', Bool.not_eq_false', Int.not_lt, Int.not_le] at f9
      refine WA.skip ?_
      refine WA.mark ?_
      refine WA.region ?_
      refine WR.val (G0 rfl) rfl rfl (.move rfl rfl) ?_
      refine WR.val (G0 rfl) rfl rfl (.add rfl rfl rfl (by omega) (by omega)) ?_
      refine WR.val (G0 rfl) rfl rfl (.assign rfl rfl) ?_
      refine WR.nil ?_
      exact WA.roundK (k + 1) (.cons rfl (.cons rfl (.nil _))) (.cons rfl (.nil _)) (.refl _) ⟨by omega, lt_snoc hd (by assumption)⟩ (by omega)
  · have f10 := h4
    try simp only [decide_eq_true_eq, decide_eq_false_iff_not, Bool.not_eq_true', Bool.not_eq_false', Int.not_lt, Int.not_le] at f10
    refine WA.exit rfl ?_
    refine WA.seq ?_
    refine WA.region ?_
    refine WR.val (G0 rfl) rfl rfl (.assign rfl rfl) ?_
    refine WR.nil ?_
    exact WA.ret1 rfl rfl (List.nil_sublist _) ⟨by rw [fnd_none (fun j hj => hd j (by omega))], rfl⟩
set_option maxRecDepth 20000 in
/-- redpencil/redpencilref14.Same -/
theorem jsameF (l : List Nd) (A : Option Addr) (cap : Nat) (w : World) (hS : SlN w A l) (hl : l.length ≤ 800000) (m : List Nd) (A' : Option Addr) (cap' : Nat) (hM : SlN w A' m) (hm : m.length ≤ 800000) : Ct Tryz.prog 48 #[.slice A l.length cap, .slice A' m.length cap'] [] w (fun u hs => u = .bool (decide (l = m)) ∧ hs = []) := by
  refine Ct.intro Tryz.func48 rfl Tryz.ntmps48 rfl ?_
  refine WA.seq ?_
  refine WA.region ?_
  refine WR.val (G0 rfl) rfl rfl (.assign rfl rfl) ?_
  refine WR.nil ?_
  refine WA.seq ?_
  refine WA.seq ?_
  refine WA.region ?_
  refine WR.val (G0 rfl) rfl rfl (.move rfl rfl) ?_
  refine WR.val (G0 rfl) rfl rfl (.len rfl ST_23.1 rfl) ?_
  refine WR.val (G0 rfl) rfl rfl (.move rfl rfl) ?_
  refine WR.val (G0 rfl) rfl rfl (.len rfl ST_23.1 rfl) ?_
  refine WR.val (G0 rfl) rfl rfl (.neq rfl rfl rfl) ?_
  refine WR.nil ?_
  refine WA.cond rfl (fun h2 => ?_) (fun h2 => ?_)
  · have f3 := h2
    try simp only [decide_eq_true_eq, decide_eq_false_iff_not, Bool.not_eq_true', Bool.not_eq_false', Int.not_lt, Int.not_le] at f3
    refine WA.seq ?_
    refine WA.region ?_
    refine WR.val (G0 rfl) rfl rfl (.assign rfl rfl) ?_
    refine WR.nil ?_
    exact WA.ret1 rfl rfl (List.nil_sublist _) ⟨by rw [decide_eq_false (fun e => by subst e; simp_all)], rfl⟩
  · have f4 := h2
    try simp only [decide_eq_true_eq, decide_eq_false_iff_not, Bool.not_eq_true', Bool.not_eq_false', Int.not_lt, Int.not_le] at f4
    refine WA.skip ?_
    refine WA.seq ?_
    refine WA.seq ?_
    refine WA.region ?_
    refine WR.val (G0 rfl) rfl rfl (.assign rfl rfl) ?_
    refine WR.nil ?_
    refine WA.block ?_
    refine WA.loopK (γ := Nat) [(0, _), (1, _)] [] (fun k => [(5, .int .i64 (k : Int))]) (fun k => []) (fun k => k ≤ l.length ∧ ∀ j : Nat, j < k → gx l (j : Int) = gx m (j : Int)) (fun k => l.length - k) 0 (.cons rfl (.cons rfl (.nil _))) (.cons rfl (.nil _)) .slnil ⟨by omega, fun _ h => absurd h (by omega)⟩ ?_
    intro k hk
    obtain ⟨hk, hd⟩ := hk
    refine WA.seq ?_
    refine WA.seq ?_
    refine WA.region ?_
    refine WR.val (G0 rfl) rfl rfl (.move rfl rfl) ?_
    refine WR.val (G0 rfl) rfl rfl (.move rfl rfl) ?_
    refine WR.val (G0 rfl) rfl rfl (.len rfl ST_23.1 rfl) ?_
    refine WR.val (G0 rfl) rfl rfl (.lss rfl rfl rfl) ?_
    refine WR.nil ?_
    refine WA.cond rfl (fun h6 => ?_) (fun h6 => ?_)
    · have f7 := h6
      try simp only [decide_eq_true_eq, decide_eq_false_iff_not, Bool.not_eq_true', Bool.not_eq_false', Int.not_lt, Int.not_le] at f7
      refine WA.skip ?_
      refine WA.seq ?_
      refine WA.block ?_
      refine WA.seq ?_
      refine WA.draws0 follows ?_
      refine WH.take 0 rfl (Pf_blind _ _ _ _ _) (by kernel_rfl) (by kernel_rfl) (by kernel_rfl) .slnil (G0 rfl) rfl rfl (.move rfl rfl) ?_
      refine WH.take 1 rfl (Pf_blind _ _ _ _ _) (by kernel_rfl) (by kernel_rfl) (by kernel_rfl) .slnil (G0 rfl) rfl rfl (.move rfl rfl) ?_
      refine WH.take 2 rfl (Pf_blind _ _ _ _ _) (by kernel_rfl) (by kernel_rfl) (by kernel_rfl) .slnil (G0 rfl) rfl rfl (.ix rfl ST_23 rfl rfl (by omega) (by omega) (fun _ hw hn => (hw.slf0 hS).some_ hn)) ?_
      refine WH.take 3 rfl (Pf_blind _ _ _ _ _) (by kernel_rfl) (by kernel_rfl) (by kernel_rfl) .slnil (G0 rfl) rfl rfl (.loadK (vs := [_, _, _, _, _, _]) rfl AG_42 rfl (fun _ hw => rdN (hw.slf0 hS) (by omega) (by omega))) ?_
      refine WH.take 4 rfl (Pf_blind _ _ _ _ _) (by kernel_rfl) (by kernel_rfl) (by kernel_rfl) .slnil (G0 rfl) rfl rfl (.move rfl rfl) ?_
      refine WH.take 5 rfl (Pf_blind _ _ _ _ _) (by kernel_rfl) (by kernel_rfl) (by kernel_rfl) .slnil (G0 rfl) rfl rfl (.move rfl rfl) ?_
      refine WH.take 6 rfl (Pf_blind _ _ _ _ _) (by kernel_rfl) (by kernel_rfl) (by kernel_rfl) .slnil (G0 rfl) rfl rfl (.ix rfl ST_23 rfl rfl (by omega) (by omega) (fun _ hw hn => (hw.slf0 hM).some_ hn)) ?_
      refine WH.take 7 rfl (Pf_blind _ _ _ _ _) (by kernel_rfl) (by kernel_rfl) (by kernel_rfl) .slnil (G0 rfl) rfl rfl (.loadK (vs := [_, _, _, _, _, _]) rfl AG_42 rfl (fun _ hw => rdN (hw.slf0 hM) (by omega) (by omega))) ?_
      refine WH.take 8 rfl (Pf_blind _ _ _ _ _) (by kernel_rfl) (by kernel_rfl) (by kernel_rfl) .slnil (G0 rfl) rfl rfl (.bin rfl rfl rfl EQT_neq_42) ?_
      refine WH.done (by kernel_rfl) ?_
      refine WA.cond rfl (fun h9 => ?_) (fun h9 => ?_)
      · have f10 := h9
        try simp only [decide_eq_true_eq, decide_eq_false_iff_not, Bool.not_eq_true', Bool.not_eq_false', Int.not_lt, Int.not_le] at f10
        refine WA.seq ?_
        refine WA.region ?_
        refine WR.val (G0 rfl) rfl rfl (.assign rfl rfl) ?_
        refine WR.nil ?_
        exact WA.ret1 rfl rfl (List.nil_sublist _) ⟨by rw [decide_eq_false (fun e => by subst e; simp_all)], rfl⟩
      · have f11 := h9
        try simp only [decide_eq_true_eq, decide_eq_false_iff_not, Bool.not_eq_true', Bool.not_eq_false', Int.not_lt, Int.not_le] at f11
        refine WA.skip ?_
        refine WA.mark ?_
        refine WA.region ?_
        refine WR.val (G0 rfl) rfl rfl (.move rfl rfl) ?_
        refine WR.val (G0 rfl) rfl rfl (.add rfl rfl rfl (by omega) (by omega)) ?_
        refine WR.val (G0 rfl) rfl rfl (.assign rfl rfl) ?_
        refine WR.nil ?_
        exact WA.roundK (k + 1) (.cons rfl (.cons rfl (.nil _))) (.cons rfl (.nil _)) .slnil ⟨by omega, lt_snoc hd (by simp_all)⟩ (by omega)
    · have f12 := h6
      try simp only [decide_eq_true_eq, decide_eq_false_iff_not, Bool.not_eq_true', Bool.not_eq_false', Int.not_lt, Int.not_le] at f12
      refine WA.exit rfl ?_
      refine WA.seq ?_
      refine WA.region ?_
      refine WR.val (G0 rfl) rfl rfl (.assign rfl rfl) ?_
      refine WR.nil ?_
      exact WA.ret1 rfl rfl (List.nil_sublist _) ⟨by rw [decide_eq_true (list_ext_gx (by omega) (fun j hj => hd j (by omega)))], rfl⟩
set_option maxRecDepth 20000 in
/-- redpencil/redpencilref14.first -/
theorem jfirstF (a b : Nd) (w : World) : Ct Tryz.prog 260 #[nv a, nv b] [] w (fun u hs => u = .bool (nfirst a b) ∧ hs = []) := by
  refine Ct.intro Tryz.func260 rfl Tryz.ntmps260 rfl ?_
  refine WA.seq ?_
  refine WA.region ?_
  refine WR.dw (G0 rfl) rfl rfl (.box (vs := [_, _, _, _, _, _]) rfl rfl rfl) ?_
  rintro _ _ ⟨b2, rfl, rfl⟩
  refine WR.dw (G0 rfl) rfl rfl (.box (vs := [_, _, _, _, _, _]) rfl rfl rfl) ?_
  rintro _ _ ⟨b4, rfl, rfl⟩
  refine WR.val (G0 rfl) rfl rfl (.assign rfl rfl) ?_
  refine WR.nil ?_
  refine WA.seq ?_
  refine WA.region ?_
  refine WR.val (G0 rfl) rfl rfl (.fa rfl FA_42_2 rfl) ?_
  refine WR.val (G0 rfl) rfl rfl (.load1 rfl NA_3 rfl (fun _ hw => hw.rd_blk (k := 1) 1 rfl rfl)) ?_
  refine WR.val (G0 rfl) rfl rfl (.fa rfl FA_42_2 rfl) ?_
  refine WR.val (G0 rfl) rfl rfl (.load1 rfl NA_3 rfl (fun _ hw => hw.rd_blk (k := 1) 0 rfl rfl)) ?_
  refine WR.val (G0 rfl) rfl rfl (.gtr rfl rfl rfl) ?_
  refine WR.val (G0 rfl) rfl rfl (.move rfl rfl) ?_
  refine WR.split (d := 10) rfl (fun h6 => ?_) (fun h6 => ?_)
  · have f7 := h6
    try simp only [decide_eq_true_eq, decide_eq_false_iff_not, Bool.not_eq_true', Bool.not_eq_false', Int.not_lt, Int.not_le] at f7
    refine WR.off (Gf rfl rfl rfl h6) rfl rfl ?_
    refine WR.off (Gf rfl rfl rfl h6) rfl rfl ?_
    refine WR.off (Gf rfl rfl rfl h6) rfl rfl ?_
    refine WR.off (Gf rfl rfl rfl h6) rfl rfl ?_
    refine WR.off (Gf rfl rfl rfl h6) rfl rfl ?_
    refine WR.off (Gf rfl rfl rfl h6) rfl rfl ?_
    refine WR.off (Gu rfl rfl rfl) rfl rfl ?_
    refine WR.off (Gu rfl rfl rfl) rfl rfl ?_
    refine WR.off (Gu rfl rfl rfl) rfl rfl ?_
    refine WR.off (Gu rfl rfl rfl) rfl rfl ?_
    refine WR.off (Gu rfl rfl rfl) rfl rfl ?_
    refine WR.off (Gf rfl rfl rfl h6) rfl rfl ?_
    refine WR.val (G0 rfl) rfl rfl (.pick_t rfl rfl h6 rfl) ?_
    refine WR.val (G0 rfl) rfl rfl (.assign rfl rfl) ?_
    refine WR.nil ?_
    exact WA.ret1 rfl rfl (List.nil_sublist _) ⟨by congr 1; rw [Bool.eq_iff_iff]; simp_all [nfirst] <;> omega, rfl⟩
  · have f8 := h6
    try simp only [decide_eq_true_eq, decide_eq_false_iff_not, Bool.not_eq_true', Bool.not_eq_false', Int.not_lt, Int.not_le] at f8
    refine WR.val (Gt rfl rfl rfl h6) rfl rfl (.fa rfl FA_42_2 rfl) ?_
    refine WR.val (Gt rfl rfl rfl h6) rfl rfl (.load1 rfl NA_3 rfl (fun _ hw => hw.rd_blk (k := 1) 1 rfl rfl)) ?_
    refine WR.val (Gt rfl rfl rfl h6) rfl rfl (.fa rfl FA_42_2 rfl) ?_
    refine WR.val (Gt rfl rfl rfl h6) rfl rfl (.load1 rfl NA_3 rfl (fun _ hw => hw.rd_blk (k := 1) 0 rfl rfl)) ?_
    refine WR.val (Gt rfl rfl rfl h6) rfl rfl (.eql rfl rfl rfl) ?_
    refine WR.val (Gt rfl rfl rfl h6) rfl rfl (.move rfl rfl) ?_
    refine WR.split (d := 16) rfl (fun h10 => ?_) (fun h10 => ?_)
    · have f11 := h10
      try simp only [decide_eq_true_eq, decide_eq_false_iff_not, Bool.not_eq_true', Bool.not_eq_false', Int.not_lt, Int.not_le] at f11
      refine WR.val (Gt rfl rfl rfl h10) rfl rfl (.fa rfl FA_42_0 rfl) ?_
      refine WR.val (Gt rfl rfl rfl h10) rfl rfl (.loadK (vs := [_, _]) rfl AG_39 rfl (fun _ hw => hw.rd_blk (k := 2) 0 rfl rfl)) ?_
      refine WR.val (Gt rfl rfl rfl h10) rfl rfl (.fa rfl FA_42_0 rfl) ?_
      refine WR.val (Gt rfl rfl rfl h10) rfl rfl (.loadK (vs := [_, _]) rfl AG_39 rfl (fun _ hw => hw.rd_blk (k := 2) 1 rfl rfl)) ?_
      refine WR.dw (Gt rfl rfl rfl h10) rfl rfl (.callv (caps := []) rfl rfl rfl EN_129 (fun w hw => jbeforeF _ _ w)) ?_
      rintro _ _ ⟨rfl, rfl⟩
      refine WR.val (Gt rfl rfl rfl h6) rfl rfl (.pick_t rfl rfl h10 rfl) ?_
      refine WR.val (G0 rfl) rfl rfl (.pick_f rfl rfl h6 rfl) ?_
      refine WR.val (G0 rfl) rfl rfl (.assign rfl rfl) ?_
      refine WR.nil ?_
      exact WA.ret1 rfl rfl (List.nil_sublist _) ⟨by congr 1; rw [Bool.eq_iff_iff]; simp_all [nfirst] <;> omega, rfl⟩
    · have f13 := h10
      try simp only [decide_eq_true_eq, decide_eq_false_iff_not, Bool.not_eq_true', Bool.not_eq_false', Int.not_lt, Int.not_le] at f13
      refine WR.off (Gf rfl rfl rfl h10) rfl rfl ?_
      refine WR.off (Gf rfl rfl rfl h10) rfl rfl ?_
      refine WR.off (Gf rfl rfl rfl h10) rfl rfl ?_
      refine WR.off (Gf rfl rfl rfl h10) rfl rfl ?_
      refine WR.off (Gf rfl rfl rfl h10) rfl rfl ?_
      refine WR.val (Gt rfl rfl rfl h6) rfl rfl (.pick_f rfl rfl h10 rfl) ?_
      refine WR.val (G0 rfl) rfl rfl (.pick_f rfl rfl h6 rfl) ?_
      refine WR.val (G0 rfl) rfl rfl (.assign rfl rfl) ?_
      refine WR.nil ?_
      exact WA.ret1 rfl rfl (List.nil_sublist _) ⟨by congr 1; rw [Bool.eq_iff_iff]; simp_all [nfirst] <;> omega, rfl⟩
end Go.Proofs.YtpbillinpjccdaaGreat.Fn
