/- Contracts: families. -/
import Derived.Test.YtpbillinpjccdaaGreatFhQ
import Derived.Test.YtpbillinpjccdaaGreatRjQ
namespace Go.Proofs.YtpbillinpjccdaaGreat.Fi
open Go.RowKit Go.J Go.R Go.Proofs.YtpbillinpjccdaaGreat.Fa Go.Proofs.YtpbillinpjccdaaGreat.Fb Go.Proofs.YtpbillinpjccdaaGreat.Fc Go.Proofs.YtpbillinpjccdaaGreat.Fd Go.Proofs.YtpbillinpjccdaaGreat.Fe Go.Proofs.YtpbillinpjccdaaGreat.Fg Go.Proofs.YtpbillinpjccdaaGreat.Fh
set_option linter.unusedVariables false
set_option linter.unusedSimpArgs false
theorem follows : Tryz.prog.follows .mixedOrders = true := by kernel_rfl
theorem AG_225 : AG Tryz.prog 225 1 := ⟨Tryz.isAgg225, Tryz.sizeOf225⟩
theorem AG_39 : AG Tryz.prog 39 2 := ⟨Tryz.isAgg39, Tryz.sizeOf39⟩
theorem AG_42 : AG Tryz.prog 42 6 := ⟨Tryz.isAgg42, Tryz.sizeOf42⟩
theorem EN_219 : Enters Tryz.prog 219 := enters_of Tryz.func219 (by kernel_rfl) rfl
theorem EN_220 : Enters Tryz.prog 220 := enters_of Tryz.func220 (by kernel_rfl) rfl
theorem EN_221 : Enters Tryz.prog 221 := enters_of Tryz.func221 (by kernel_rfl) rfl
theorem EN_222 : Enters Tryz.prog 222 := enters_of Tryz.func222 (by kernel_rfl) rfl
theorem EN_223 : Enters Tryz.prog 223 := enters_of Tryz.func223 (by kernel_rfl) rfl
theorem EN_289 : Enters Tryz.prog 289 := enters_of Tryz.func289 (by kernel_rfl) rfl
theorem FA_225_0 : FA Tryz.prog 225 0 0 := fun ad w => by simp [Instr.fieldAt, run_underlying Tryz.underlying225, Instr.sureAddr, fieldPlace, Tryz.sizeOf223]
theorem FA_42_1 : FA Tryz.prog 42 1 2 := fun ad w => by simp [Instr.fieldAt, run_underlying Tryz.underlying42, Instr.sureAddr, fieldPlace, Tryz.sizeOf39]
theorem NA_223 : NA Tryz.prog 223 := ⟨Tryz.isAgg223, Tryz.sizeOf223⟩
theorem ST_22 : ST Tryz.prog 22 42 6 := ⟨Tryz.underlying22, Tryz.sizeOf42⟩
theorem ZT_225 : ZT Tryz.prog 225 (.agg #[.pointer none]) 1 8 := by unfold ZT; kernel_rfl
theorem ZT_42 : ZT Tryz.prog 42 (.agg #[.int .i64 0, .int .i64 0, .int .i64 0, .int .i64 0, .int .i64 0, .int .i32 0]) 6 48 := by unfold ZT; kernel_rfl
theorem getU (w : World) (p : Nat) (E : Option Addr) (cap : Nat) (fs : List Fam) (hM : Rd w ⟨p, 0, none⟩ [.func (.func 107) #[] #[], .slice E (ents fs).length cap]) (d : Dot) (hE : SlE w E (ents fs)) (hl : fs.length ≤ 900000) (hs : ksorted (ents fs)) : Ct Tryz.prog 220 #[.pointer (some ⟨p, 0, none⟩), dv d] [] w (fun u hs => u = .tuple #[.slice (underA fs d) (under fs d).length (underC fs d), .bool (mhas (ents fs) d)] ∧ hs = []) :=
  (getF w p E cap (ents fs) hM d hE (by simp; omega) hs).mono fun _ _ ⟨h1, h2⟩ => ⟨h1.trans (by rw [under_val]), h2⟩
set_option maxRecDepth 20000 in
/-- redpencil/walk.made -/
theorem madeF (l : List Nd) (A : Option Addr) (cap : Nat) (w : World) (hS : SlN w A l) (hl : l.length ≤ 800000) (hd : DD l) : Ct Tryz.prog 169 #[.slice A l.length cap] [] w (fun u hs => ∃ p E cap fs, u = .agg #[.pointer (some ⟨p, 0, none⟩)] ∧ hs = En.blk p [.func (.func 107) #[] #[], .slice E (ents fs).length cap] 311 :: En.row E (ents fs).length cap 314 3 ((ents fs).flatMap ec) :: fs.map (Fam.row 42) ∧ ksorted (ents fs) ∧ fs.length ≤ 800000 ∧ ∀ d, under fs d = kids l d) := by
  refine Ct.intro Tryz.func169 rfl Tryz.ntmps169 rfl ?_
  refine WA.seq ?_
  refine WA.region ?_
  refine WR.dw (G0 rfl) rfl rfl (.alloc (vs := [_]) rfl ZT_225 rfl) ?_
  rintro _ _ ⟨b2, rfl, rfl⟩
  refine WR.nil ?_
  refine WA.seq ?_
  refine WA.region ?_
  refine WR.dw (G0 rfl) rfl rfl (.call0 (caps := []) rfl rfl rfl EN_219 (fun w hw => newMF _)) ?_
  rintro _ _ ⟨_, ⟨v4, rfl, rfl⟩, rfl⟩
  refine WR.nilrow 314 3 ?_
  refine WR.val (G0 rfl) rfl rfl (.build (vs := [_]) [.pointer none] [0] rfl rfl rfl (fun _ => by kernel_rfl)) ?_
  refine WR.dw (G0 rfl) rfl rfl (.alloc (vs := [_]) rfl ZT_225 rfl) ?_
  rintro _ _ ⟨b6, rfl, rfl⟩
  refine WR.dw0 (G0 rfl) rfl (.store (i := 0) rfl AG_225.2 rfl rfl [_] rfl rfl (by intro u hu; simp at hu; subst hu; rfl) rfl rfl) ?_
  rintro _ _ ⟨rfl, rfl⟩
  refine WR.nil ?_
  refine WA.seq ?_
  refine WA.seq ?_
  refine WA.region ?_
  refine WR.val (G0 rfl) rfl rfl (.move rfl rfl) ?_
  refine WR.val (G0 rfl) rfl rfl (.len rfl ST_22.1 rfl) ?_
  refine WR.val (G0 rfl) rfl rfl (.move rfl rfl) ?_
  refine WR.nil ?_
  refine WA.block ?_
  refine WA.front 1 rfl ?_
  refine WA.front 2 rfl ?_
  refine WA.front 2 rfl ?_
  refine WA.front 3 rfl ?_
  refine WA.loopT (γ := Nat × Option Addr × Nat × List Fam) [(2, _), (3, _), (12, _), (13, _)] (fun q => [(14, .int .i64 (q.1 : Int))]) (fun q => (En.blk b2 [.pointer none] 225 :: En.blk b6 [.pointer (some ⟨v4, 0, none⟩)] 225 :: En.blk v4 [.func (.func 107) #[] #[], .slice q.2.1 (ents q.2.2.2).length q.2.2.1] 311 :: En.row q.2.1 (ents q.2.2.2).length q.2.2.1 314 3 ((ents q.2.2.2).flatMap ec) :: (q.2.2.2.map (Fam.row 42)))) (fun q => q.1 ≤ l.length ∧ q.2.2.2.length ≤ q.1 ∧ Fo (l.take q.1) q.2.2.2) (fun q => l.length - q.1) (0, none, 0, []) (.cons rfl (.cons rfl (.cons rfl (.cons rfl (.nil _))))) (.cons rfl (.nil _)) (.refl _) ⟨by simp, by simp, by simpa using Fo.nil⟩ ?_
  intro q hk
  obtain ⟨hk, hfl, hfo⟩ := hk
  refine WA.seq ?_
  refine WA.region ?_
  refine WR.val (G0 rfl) rfl rfl (.lss rfl rfl rfl) ?_
  refine WR.nil ?_
  refine WA.seq ?_
  refine WA.cond rfl (fun h8 => ?_) (fun h8 => ?_)
  · have f9 := h8
    try simp only [decide_eq_true_eq, decide_eq_false_iff_not, Bool.not_eq_true', Bool.not_eq_false', Int.not_lt, Int.not_le] at f9
    refine WA.skip ?_
    refine WA.seq ?_
    refine WA.block ?_
    refine WA.seq ?_
    refine WA.region ?_
    refine WR.val (G0 rfl) rfl rfl (.ix rfl ST_22 rfl rfl (by omega) (by omega) (fun _ hw hn => (hw.slf0 hS).some_ hn)) ?_
    refine WR.val (G0 rfl) rfl rfl (.loadK (vs := [_, _, _, _, _, _]) rfl AG_42 rfl (fun _ hw => rdN (hw.slf0 hS) (by omega) (by omega))) ?_
    refine WR.dw (G0 rfl) rfl rfl (.alloc (vs := [_, _, _, _, _, _]) rfl ZT_42 rfl) ?_
    rintro _ _ ⟨b11, rfl, rfl⟩
    refine WR.dw0 (G0 rfl) rfl (.store (i := 0) rfl AG_42.2 rfl rfl [_, _, _, _, _, _] rfl rfl (by intro u hu; simp at hu; rcases hu with rfl | rfl | rfl | rfl | rfl | rfl <;> rfl) rfl rfl) ?_
    rintro _ _ ⟨rfl, rfl⟩
    refine WR.nil ?_
    refine WA.seq ?_
    have hul := hfo.under_len (gx l (q.1 : Int)).p
    have htl := List.length_take_le q.1 l
    have htl2 := List.length_take_le' q.1 l
    refine WA.region ?_
    refine WR.val (G0 rfl) rfl rfl (.fa rfl FA_225_0 rfl) ?_
    refine WR.val (G0 rfl) rfl rfl (.load1 rfl NA_223 rfl (fun _ hw => hw.rd_blk (k := 1) 2 rfl rfl)) ?_
    refine WR.val (G0 rfl) rfl rfl (.fa rfl FA_42_1 rfl) ?_
    refine WR.val (G0 rfl) rfl rfl (.loadK (vs := [_, _]) rfl AG_39 rfl (fun _ hw => hw.rd_blk (k := 2) 0 rfl rfl)) ?_
    refine WR.dw (G0 rfl) rfl rfl (.callv (caps := []) rfl rfl rfl EN_220 (fun w hw => getU _ _ q.2.1 q.2.2.1 q.2.2.2 (hw.rd_blk (k := 2) 3 rfl rfl) _ (hw.slf_row 4 rfl) (by omega) hfo.sorted)) ?_
    rintro _ _ ⟨rfl, rfl⟩
    refine WR.val (G0 rfl) rfl rfl (.move rfl rfl) ?_
    refine WR.val (G0 rfl) rfl rfl (.extract (vs := [_, _]) rfl rfl rfl) ?_
    refine WR.val (G0 rfl) rfl rfl (.extract (vs := [_, _]) rfl rfl rfl) ?_
    refine WR.val (G0 rfl) rfl rfl (.assign rfl rfl) ?_
    refine WR.val (G0 rfl) rfl rfl (.assign rfl rfl) ?_
    refine WR.nil ?_
    refine WA.famOpen q.2.2.2 (gx l (q.1 : Int)).p [_, _, _, _, _] ?_
    refine WA.drawsE3 follows 0 3 3 ?_
    refine WH.take 0 rfl (Pf_blind _ _ _ _ _) (by kernel_rfl) (by kernel_rfl) (by kernel_rfl) (.cons _ (.cons_cons _ (.cons_cons _ (.cons_cons _ (.cons _ (.cons _ (.refl _))))))) (G0 rfl) rfl rfl (.fa rfl FA_225_0 rfl) ?_
    refine WH.take 1 rfl (Pf_blind _ _ _ _ _) (by kernel_rfl) (by kernel_rfl) (by kernel_rfl) (.cons _ (.cons_cons _ (.cons_cons _ (.cons_cons _ (.cons _ (.cons _ (.refl _))))))) (G0 rfl) rfl rfl (.load1 rfl NA_223 rfl (fun _ hw => hw.rd_blk (k := 1) 2 rfl rfl)) ?_
    refine WH.take 2 rfl (Pf_blind _ _ _ _ _) (by kernel_rfl) (by kernel_rfl) (by kernel_rfl) (.cons _ (.cons_cons _ (.cons_cons _ (.cons_cons _ (.cons _ (.cons _ (.refl _))))))) (G0 rfl) rfl rfl (.fa rfl FA_42_1 rfl) ?_
    refine WH.take 3 rfl (Pf_blind _ _ _ _ _) (by kernel_rfl) (by kernel_rfl) (by kernel_rfl) (.cons _ (.cons_cons _ (.cons_cons _ (.cons_cons _ (.cons _ (.cons _ (.refl _))))))) (G0 rfl) rfl rfl (.loadK (vs := [_, _]) rfl AG_39 rfl (fun _ hw => hw.rd_blk (k := 2) 0 rfl rfl)) ?_
    refine WH.take 4 rfl (Pf_blind _ _ _ _ _) (by kernel_rfl) (by kernel_rfl) (by kernel_rfl) (.cons _ (.cons_cons _ (.cons_cons _ (.cons_cons _ (.cons _ (.cons _ (.refl _))))))) (G0 rfl) rfl rfl (.move rfl rfl) ?_
    refine WH.take 5 rfl (Pf_blind _ _ _ _ _) (by kernel_rfl) (by kernel_rfl) (by kernel_rfl) (.cons _ (.cons_cons _ (.cons_cons _ (.cons_cons _ (.cons _ (.cons _ (.refl _))))))) (G0 rfl) rfl rfl (.loadK (vs := [_, _, _, _, _, _]) rfl AG_42 rfl (fun _ hw => hw.rd_blk (k := 6) 0 rfl rfl)) ?_
    refine WH.dw 6 rfl (by kernel_rfl) (G0 rfl) rfl rfl (.buildSlice (k := 6) (e := 42) (vs := [_, _, _, _, _, _]) rfl rfl rfl (fun _ => by kernel_rfl) rfl) ?_
    rintro _ _ ⟨b16, rfl, rfl⟩
    refine ⟨(.cons _ (.cons _ (.cons_cons _ (.cons_cons _ (.cons_cons _ (.cons _ (.cons _ (.refl _)))))))), ?_⟩
    refine WH.dw 7 rfl (by kernel_rfl) (G0 rfl) rfl rfl (.append 1 rfl ST_22.1 ZT_42 rfl (by decide) rfl rfl rfl (fun _ hw => hw.slf_blk 0 rfl rfl (by simp [maxLen])) (by intro u hu; simp at hu; rcases hu with rfl | rfl | rfl | rfl | rfl | rfl <;> rfl) (by omega) (by omega)) ?_
    rintro _ _ ⟨A19, c20, rfl, rfl⟩
    refine ⟨(.cons _ (.cons _ (.cons_cons _ (.cons_cons _ (.cons_cons _ (.cons _ (.cons _ (.refl _)))))))), ?_⟩
    refine WH.dw 8 rfl (by kernel_rfl) (G0 rfl) rfl rfl (.callo2 (caps := []) 5 5 rfl rfl rfl rfl rfl EN_221 (fun w hw => setMF w _ q.2.1 q.2.2.1 (ents q.2.2.2) ⟨(gx l (q.1 : Int)).p, A19, (under q.2.2.2 (gx l (q.1 : Int)).p).length + 1, c20⟩ (by simp; omega) hfo.sorted)) ?_
    rintro _ _ ⟨_, ⟨E23, c24, rfl⟩, rfl⟩
    refine ⟨(.cons _ (.cons _ (.cons _ (.cons _ (.refl _))))), ?_⟩
    refine WH.done (by kernel_rfl) ?_
    refine WA.mark ?_
    have hE6 : mput (ents q.2.2.2) ⟨(gx l (q.1 : Int)).p, A19, (under q.2.2.2 (gx l (q.1 : Int)).p).length + 1, c20⟩ = ents (fput q.2.2.2 (⟨(gx l (q.1 : Int)).p, A19, c20, under q.2.2.2 (gx l (q.1 : Int)).p ++ [(gx l (q.1 : Int))]⟩ : Fam)) := by rw [fput_ents]; simp [Fam.ent]
    refine WA.blkeq 0 rfl [.func (.func 107) #[] #[], .slice E23 (ents (fput q.2.2.2 (⟨(gx l (q.1 : Int)).p, A19, c20, under q.2.2.2 (gx l (q.1 : Int)).p ++ [(gx l (q.1 : Int))]⟩ : Fam))).length c24] (by rw [hE6]) ?_
    refine WA.roweq 1 rfl (ents (fput q.2.2.2 (⟨(gx l (q.1 : Int)).p, A19, c20, under q.2.2.2 (gx l (q.1 : Int)).p ++ [(gx l (q.1 : Int))]⟩ : Fam))).length ((ents (fput q.2.2.2 (⟨(gx l (q.1 : Int)).p, A19, c20, under q.2.2.2 (gx l (q.1 : Int)).p ++ [(gx l (q.1 : Int))]⟩ : Fam))).flatMap ec) (by rw [hE6]) (by rw [hE6]) ?_
    refine WA.roweq 3 rfl (under q.2.2.2 (gx l (q.1 : Int)).p ++ [(gx l (q.1 : Int))]).length ((under q.2.2.2 (gx l (q.1 : Int)).p ++ [(gx l (q.1 : Int))]).flatMap nc) (by simp) (by rw [flat_snoc]) ?_
    refine WA.front 3 rfl ?_
    refine WA.front 2 rfl ?_
    refine WA.front 2 rfl ?_
    refine WA.front 6 rfl ?_
    refine WA.front 6 rfl ?_
    refine WA.less (s' := _) (h' := _ :: _ :: _ :: _ :: _ :: (frest q.2.2.2 (gx l (q.1 : Int)).p).map (Fam.row 42)) (fun _ _ h => h) (.cons_cons _ (.cons_cons _ (.cons_cons _ (.cons_cons _ (.cons_cons _ (.cons _ (.cons _ (.refl _)))))))) ?_
    refine WA.perm (List.Perm.append_left [_, _, _, _] (fam_close (N := 42) q.2.2.2 (⟨(gx l (q.1 : Int)).p, A19, c20, under q.2.2.2 (gx l (q.1 : Int)).p ++ [(gx l (q.1 : Int))]⟩ : Fam))) ?_
    refine WA.region ?_
    refine WR.val (G0 rfl) rfl rfl (.add rfl rfl rfl (by omega) (by omega)) ?_
    refine WR.val (G0 rfl) rfl rfl (.move rfl rfl) ?_
    refine WR.nil ?_
    exact WA.roundT (q.1 + 1, E23, c24, fput q.2.2.2 (⟨(gx l (q.1 : Int)).p, A19, c20, under q.2.2.2 (gx l (q.1 : Int)).p ++ [(gx l (q.1 : Int))]⟩ : Fam)) (.cons rfl (.cons rfl (.cons rfl (.cons rfl (.nil _))))) (.cons rfl (.nil _)) (.refl _) ⟨by dsimp only; omega, Nat.le_trans (fput_len _ _) (by dsimp only; omega), by dsimp only; rw [take_gx l (by omega)]; exact hfo.put _ _ _⟩ (by dsimp only; omega)
  · have f25 := h8
    try simp only [decide_eq_true_eq, decide_eq_false_iff_not, Bool.not_eq_true', Bool.not_eq_false', Int.not_lt, Int.not_le] at f25
    refine WA.exit rfl ?_
    refine WA.seq ?_
    refine WA.seq ?_
    have hkl : q.1 = l.length := by omega
    rw [hkl, List.take_length] at hfo
    refine WA.region ?_
    refine WR.val (G0 rfl) rfl rfl (.fa rfl FA_225_0 rfl) ?_
    refine WR.val (G0 rfl) rfl rfl (.load1 rfl NA_223 rfl (fun _ hw => hw.rd_blk (k := 1) 1 rfl rfl)) ?_
    refine WR.dw (G0 rfl) rfl rfl (.call0 (caps := []) rfl rfl rfl EN_222 (fun w hw => mallF _ _ q.2.1 q.2.2.1 (ents q.2.2.2) (hw.rd_blk (k := 2) 2 rfl rfl) (hw.slf_row 3 rfl) (by simp; omega))) ?_
    rintro _ _ ⟨_, ⟨v28, v29, v30, rfl, rfl⟩, rfl⟩
    refine WR.nil ?_
    refine WA.block ?_
    refine WA.front 0 rfl ?_
    refine WA.front 1 rfl ?_
    refine WA.front 5 rfl ?_
    refine WA.front 5 rfl ?_
    refine WA.front 5 rfl ?_
    refine WA.front 5 rfl ?_
    refine WA.rangeFunc (caps := [.pointer (some ⟨_, 0, none⟩)]) (post' := (fun hs => hs = En.blk v30 [.slice v28 (ents q.2.2.2).length v29] 309 :: En.row v28 (ents q.2.2.2).length v29 314 3 ((ents q.2.2.2).flatMap ec) :: (q.2.2.2.map fsort).map (Fam.row 42))) (own := En.blk v30 [.slice v28 (ents q.2.2.2).length v29] 309 :: En.row v28 (ents q.2.2.2).length v29 314 3 ((ents q.2.2.2).flatMap ec) :: q.2.2.2.map (Fam.row 42)) (hr := [_, _, _, _]) rfl EN_289 (List.perm_append_comm (l₁ := [_, _, _, _]) (l₂ := En.blk v30 [.slice v28 (ents q.2.2.2).length v29] 309 :: En.row v28 (ents q.2.2.2).length v29 314 3 ((ents q.2.2.2).flatMap ec) :: q.2.2.2.map (Fam.row 42))) (fun D lp rec hrec w hw => ?_) (fun D hs hp => ?_)
    · have hY : ∀ (pre : List Ent) (x : Ent) (post : List Ent) (T : List En) (W : World), ents q.2.2.2 = pre ++ x :: post → (T = En.lp lp rec :: (fpart q.2.2.2 pre.length).map (Fam.row 42)) → Cv Tryz.prog (.func (.yield lp) #[] #[]) [dv x.k, .slice x.A x.n x.c] T W (fun u T => u = .bool true ∧ T = En.lp lp rec :: (fpart q.2.2.2 (pre ++ [x]).length).map (Fam.row 42)) := by
        intro pre x post T W hpre hSt
        subst hSt
        obtain ⟨hlt, hfx⟩ := fam_at hpre
        have hlen := hfo.len (gx_mem (l := q.2.2.2) (i := (pre.length : Int)) (by omega) (by omega))
        refine Cv.yield _ (by rw [hrec.params]; rfl) (Ag.round2 hrec rfl rfl rfl) ?_
        rw [hrec.assign]
        refine WA.region ?_
        refine WR.val (G0 rfl) rfl rfl (.assign rfl rfl) ?_
        refine WR.nil ?_
        refine WA.begun 0 rfl hrec.state hrec.body ?_
        refine WA.block ?_
        refine WA.perm (fpart_perm (N := 42) q.2.2.2 pre.length hlt (En.lp lp { rec with state := .busy })) ?_
        subst hfx
        refine WA.region ?_
        refine WR.val (G0 rfl) rfl rfl (.move rfl rfl) ?_
        refine WR.dw (G0 rfl) rfl rfl (.callo (caps := []) 0 rfl rfl rfl rfl EN_223 (fun w hw => sortNF _ _ _ w (by have := hlen; omega))) ?_
        rintro _ _ ⟨_, ⟨rfl, l31, hp32, hq33, rfl⟩, rfl⟩
        refine WR.nil ?_
        refine WA.mark ?_
        obtain rfl := fsort_eq hd hfo (gx_mem (l := q.2.2.2) (i := (pre.length : Int)) (by omega) (by omega)) hp32 hq33
        refine WA.perm (fpart_close (N := 42) q.2.2.2 pre.length hlt _) ?_
        skip
        exact WA.rounded 0 rfl hrec.state hrec.pending (.refl _) ⟨rfl, by rw [List.length_append]; rfl⟩
      have hC := over1F (fun pre T => T = En.lp lp rec :: (fpart q.2.2.2 pre.length).map (Fam.row 42)) (ents q.2.2.2) v28 v29 v30 (.func (.yield lp) #[] #[]) (En.lp lp rec :: q.2.2.2.map (Fam.row 42)) w (by simp; omega) (by rw [List.length_nil, fpart_zero]) hY
      refine (hC.perm ((List.Perm.cons _ (.swap _ _ _)).trans (.swap _ _ _))).mono ?_
      rintro u hs ⟨T, rfl, rfl⟩
      rw [show (ents q.2.2.2).length = q.2.2.2.length by simp, fpart_all]
      exact ⟨_, (List.Perm.cons _ (.swap _ _ _)).trans (.swap _ _ _), rfl⟩
    · subst hp
      refine WA.perm (List.Perm.cons _ (List.perm_append_comm (l₂ := [_, _, _, _]))) ?_
      refine WA.mark ?_
      refine WA.seq ?_
      refine WA.region ?_
      refine WR.val (G0 rfl) rfl rfl (.loadK (vs := [_]) rfl AG_225 rfl (fun _ hw => hw.rd_blk (k := 1) 2 rfl rfl)) ?_
      refine WR.dw0 (G0 rfl) rfl (.store (i := 1) rfl AG_225.2 rfl rfl [_] rfl rfl (by intro u hu; simp at hu; subst hu; rfl) rfl rfl) ?_
      rintro _ _ ⟨rfl, rfl⟩
      refine WR.nil ?_
      refine WA.retq ?_
      refine RT.undefer 0 rfl ?_
      exact RT.retv1 rfl (.cellK (vs := [_]) AG_225 rfl (fun _ hw => hw.rd_blk (k := 1) 0 rfl rfl)) (.cons _ (.cons _ (.cons_cons _ (.cons_cons _ (.cons _ (.cons _ (.refl _))))))) ⟨_, _, _, q.2.2.2.map fsort, rfl, by rw [fsort_ents], by rw [fsort_ents]; exact hfo.sorted, by simp; omega, hfo.kids⟩
end Go.Proofs.YtpbillinpjccdaaGreat.Fi
