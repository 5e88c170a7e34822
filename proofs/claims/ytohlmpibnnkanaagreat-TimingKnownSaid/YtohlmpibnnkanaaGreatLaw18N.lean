/- TimingNone: what this statement's function answers. -/
import Derived.Test.YtohlmpibnnkanaaGreatLaw18B
set_option linter.all false
set_option maxRecDepth 4000
namespace Go.Proofs.YtohlmpibnnkanaaGreat
open Go.RowKit
attribute [local irreducible] vcOps VS

theorem none18_any (v : Value) (e : RExp) (kk : Nat) (w : World) (hv : ExpV kk w v e) :
  Calls Tryz.prog 7 #[v] w fun o w' => o = .returned (.bool true) ∧ Beh w w' := by
 obtain ⟨cs, rfl, p, cp, r, d, rfl, hy, hn, hq, h1, h2⟩ := hv
 refine calm_enter (C := cxOf Tryz.prog w _) (args := [_]) Tryz.func7 rfl Tryz.ntmps7 (Nat.le_of_ble_eq_true rfl) ?_
 (repeat first|refine wN ?_|refine wP rfl ?_|refine cx_r rfl ?_|refine cx_d rfl ?_|refine wO rfl rfl ?_)
 refine VO.call rfl rfl (fk Tryz.func36) (fun wa1 ka1 ba1 => (tPut_null _ e.1 e.2.1 _ _ _ _ wa1 hq.k).mono ?_)
 rintro e w1 ⟨rfl, hb1⟩
 skip
 refine ⟨_, rfl, hb1, fun kb1 _ bb1 => wV rfl ?_⟩
 (repeat first|refine wN ?_|refine wP rfl ?_|refine cx_r rfl ?_|refine cx_d rfl ?_|refine wO rfl rfl ?_)
 refine VO.call rfl rfl (fk Tryz.func24) (fun wa2 ka2 ba2 => (tDue_nil e.1 wa2).mono ?_)
 rintro e w2 ⟨r2, rfl, q2, hb2⟩
 obtain ⟨s2, p2, n2, c2, t2, y2, m2, d2, rfl⟩ := q2.form
 refine ⟨_, rfl, hb2, fun kb2 _ bb2 => wV rfl ?_⟩
 (repeat first|refine wN ?_|refine wP rfl ?_|refine cx_r rfl ?_|refine cx_d rfl ?_|refine wO rfl rfl ?_)
 refine VO.call rfl rfl (fk Tryz.func20) (fun wa3 ka3 ba3 => (ratSign_ok _ 0 1 wa3 (q2.ki RSz.zero) (by omega) 0 (rcmp_zero' rfl)).mono ?_)
 rintro e w3 ⟨rfl, hb3⟩
 skip
 refine ⟨_, rfl, hb3, fun kb3 _ bb3 => wV rfl ?_⟩
 (repeat first|refine wN ?_|refine wP rfl ?_|refine cx_r rfl ?_|refine cx_d rfl ?_|refine wO rfl rfl ?_)
 refine VO.call rfl rfl (fk Tryz.func22) (fun wa4 ka4 ba4 => (tBalance_nil e.2.1 wa4).mono ?_)
 rintro e w4 ⟨r4, rfl, q4, hb4⟩
 obtain ⟨s4, p4, n4, c4, t4, y4, m4, d4, rfl⟩ := q4.form
 refine ⟨_, rfl, hb4, fun kb4 _ bb4 => wV rfl ?_⟩
 (repeat first|refine wN ?_|refine wP rfl ?_|refine cx_r rfl ?_|refine cx_d rfl ?_|refine wO rfl rfl ?_)
 refine VO.call rfl rfl (fk Tryz.func20) (fun wa5 ka5 ba5 => (ratSign_ok _ 0 1 wa5 (q4.ki RSz.zero) (by omega) 0 (rcmp_zero' rfl)).mono ?_)
 rintro e w5 ⟨rfl, hb5⟩
 skip
 refine ⟨_, rfl, hb5, fun kb5 _ bb5 => wV rfl ?_⟩
 (repeat first|refine wN ?_|refine wP rfl ?_|refine cx_r rfl ?_|refine cx_d rfl ?_|refine wO rfl rfl ?_)
 refine VO.call rfl rfl (fk Tryz.func31) (fun wa6 ka6 ba6 => (tRows_nil wa6).mono ?_)
 rintro e w6 ⟨rfl, hb6⟩
 skip
 refine ⟨_, rfl, hb6, fun kb6 _ bb6 => wV rfl ?_⟩
 (repeat first|refine wN ?_|refine wP rfl ?_|refine cx_r rfl ?_|refine cx_d rfl ?_|refine wO rfl rfl ?_)
 refine VO.call rfl rfl (fk Tryz.func15) (fun wa7 ka7 ba7 => (works18_any wa7).mono ?_)
 rintro e w7 ⟨rfl, hb7⟩
 skip
 refine ⟨_, rfl, hb7, fun kb7 _ bb7 => wV rfl ?_⟩
 (repeat first|refine wN ?_|refine wP rfl ?_|refine cx_r rfl ?_|refine cx_d rfl ?_|refine wO rfl rfl ?_)
 refine VS.ret (cx_ok _ _) rfl rfl (fun wz kz bz => ?_)
 exact ⟨rfl, bz⟩
end Go.Proofs.YtohlmpibnnkanaaGreat
