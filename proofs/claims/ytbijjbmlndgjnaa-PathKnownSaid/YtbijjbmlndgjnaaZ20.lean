import Derived.Test.YtbijjbmlndgjnaaZ18
import Derived.Test.YtbijjbmlndgjnaaZ19
/-
  The law PathKnown, by computation with contracts.
-/
namespace Go.Proofs.Ytbijjbmlndgjnaa.Ab
set_option linter.unusedVariables false
set_option linter.unusedSimpArgs false
set_option maxRecDepth 100000
def pk211 : AV := .isl 7 [.agg [.int .i64 2, .int .i64 1, .int .i64 1, .int .i64 0, .int .i64 0, .int .i64 0, .int .i64 0]]
def pkA : List AV := [.isl 1 [.int .i64 2, .int .i64 1, .int .i64 1]]
theorem pkSteps : AFresh Try.prog 43 pkA pk211 := exK_fresh kNogr kMixed (tb := []) trivial (n := 100000) (by kernel_rfl) rfl
def stpA1 : List AV := [.isl 1 [.int .i64 4]]
def stpV1 : AV := .isl 7 [.agg [.int .i64 4, .int .i64 0, .int .i64 0, .int .i64 0, .int .i64 0, .int .i64 0, .int .i64 0]]
theorem stp1 : AFresh Try.prog 43 stpA1 stpV1 := exK_fresh kNogr kMixed (tb := []) trivial (n := 100000) (by kernel_rfl) rfl
def stpA2 : List AV := [.isl 1 [.int .i64 3, .int .i64 1, .int .i64 1, .int .i64 2, .int .i64 2, .int .i64 3, .int .i64 3]]
def stpV2 : AV := .isl 7 [.agg [.int .i64 3, .int .i64 1, .int .i64 1, .int .i64 2, .int .i64 2, .int .i64 3, .int .i64 3]]
theorem stp2 : AFresh Try.prog 43 stpA2 stpV2 := exK_fresh kNogr kMixed (tb := []) trivial (n := 100000) (by kernel_rfl) rfl
def stpA3 : List AV := [.isl 1 [.int .i64 1, .int .i64 16385, .int .i64 0]]
def stpV3 : AV := .isl 7 [.agg [.int .i64 1, .int .i64 16385, .int .i64 0, .int .i64 0, .int .i64 0, .int .i64 0, .int .i64 0]]
theorem stp3 : AFresh Try.prog 43 stpA3 stpV3 := exK_fresh kNogr kMixed (tb := []) trivial (n := 100000) (by kernel_rfl) rfl
def stpA4 : List AV := [.isl 1 [.int .i64 1, .int .i64 0, .int .i64 (-16385)]]
def stpV4 : AV := .isl 7 [.agg [.int .i64 1, .int .i64 0, .int .i64 (-16385), .int .i64 0, .int .i64 0, .int .i64 0, .int .i64 0]]
theorem stp4 : AFresh Try.prog 43 stpA4 stpV4 := exK_fresh kNogr kMixed (tb := []) trivial (n := 100000) (by kernel_rfl) rfl
def stpA5 : List AV := [.isl 1 [.int .i64 1, .int .i64 0, .int .i64 0, .int .i64 4, .int .i64 2, .int .i64 1, .int .i64 1]]
def stpV5 : AV := .isl 7 [.agg [.int .i64 1, .int .i64 0, .int .i64 0, .int .i64 0, .int .i64 0, .int .i64 0, .int .i64 0], .agg [.int .i64 4, .int .i64 0, .int .i64 0, .int .i64 0, .int .i64 0, .int .i64 0, .int .i64 0], .agg [.int .i64 2, .int .i64 1, .int .i64 1, .int .i64 0, .int .i64 0, .int .i64 0, .int .i64 0]]
theorem stp5 : AFresh Try.prog 43 stpA5 stpV5 := exK_fresh kNogr kMixed (tb := []) trivial (n := 100000) (by kernel_rfl) rfl
def stpA7 : List AV := [.isl 1 [.int .i64 2, .int .i64 3, .int .i64 3]]
def stpV7 : AV := .isl 7 [.agg [.int .i64 2, .int .i64 3, .int .i64 3, .int .i64 0, .int .i64 0, .int .i64 0, .int .i64 0]]
theorem stp7 : AFresh Try.prog 43 stpA7 stpV7 := exK_fresh kNogr kMixed (tb := []) trivial (n := 100000) (by kernel_rfl) rfl
def stpA8 : List AV := [.isl 1 [.int .i64 1, .int .i64 1, .int .i64 1]]
def stpV8 : AV := .isl 7 [.agg [.int .i64 1, .int .i64 1, .int .i64 1, .int .i64 0, .int .i64 0, .int .i64 0, .int .i64 0]]
theorem stp8 : AFresh Try.prog 43 stpA8 stpV8 := exK_fresh kNogr kMixed (tb := []) trivial (n := 100000) (by kernel_rfl) rfl
def stpA9 : List AV := [.isl 1 [.int .i64 1, .int .i64 0, .int .i64 0, .int .i64 3, .int .i64 1, .int .i64 1, .int .i64 2, .int .i64 2, .int .i64 3, .int .i64 3]]
def stpV9 : AV := .isl 7 [.agg [.int .i64 1, .int .i64 0, .int .i64 0, .int .i64 0, .int .i64 0, .int .i64 0, .int .i64 0], .agg [.int .i64 3, .int .i64 1, .int .i64 1, .int .i64 2, .int .i64 2, .int .i64 3, .int .i64 3]]
theorem stp9 : AFresh Try.prog 43 stpA9 stpV9 := exK_fresh kNogr kMixed (tb := []) trivial (n := 100000) (by kernel_rfl) rfl
def stpA10 : List AV := [.isl 1 [.int .i64 1, .int .i64 1, .int .i64 2, .int .i64 4, .int .i64 1, .int .i64 3, .int .i64 4]]
def stpV10 : AV := .isl 7 [.agg [.int .i64 1, .int .i64 1, .int .i64 2, .int .i64 0, .int .i64 0, .int .i64 0, .int .i64 0], .agg [.int .i64 4, .int .i64 0, .int .i64 0, .int .i64 0, .int .i64 0, .int .i64 0, .int .i64 0], .agg [.int .i64 1, .int .i64 3, .int .i64 4, .int .i64 0, .int .i64 0, .int .i64 0, .int .i64 0]]
theorem stp10 : AFresh Try.prog 43 stpA10 stpV10 := exK_fresh kNogr kMixed (tb := []) trivial (n := 100000) (by kernel_rfl) rfl
def stpA11 : List AV := [.isl 1 [.int .i64 1, .int .i64 (-16384), .int .i64 16384]]
def stpV11 : AV := .isl 7 [.agg [.int .i64 1, .int .i64 (-16384), .int .i64 16384, .int .i64 0, .int .i64 0, .int .i64 0, .int .i64 0]]
theorem stp11 : AFresh Try.prog 43 stpA11 stpV11 := exK_fresh kNogr kMixed (tb := []) trivial (n := 100000) (by kernel_rfl) rfl
def stpA12 : List AV := [.isl 1 [.int .i64 1, .int .i64 16384, .int .i64 (-16384)]]
def stpV12 : AV := .isl 7 [.agg [.int .i64 1, .int .i64 16384, .int .i64 (-16384), .int .i64 0, .int .i64 0, .int .i64 0, .int .i64 0]]
theorem stp12 : AFresh Try.prog 43 stpA12 stpV12 := exK_fresh kNogr kMixed (tb := []) trivial (n := 100000) (by kernel_rfl) rfl
def stpm : List (List AV × AV) := [(stpA1, stpV1), (stpA2, stpV2), (stpA3, stpV3), (stpA4, stpV4), (stpA5, stpV5), (stpA7, stpV7), (stpA8, stpV8), (stpA9, stpV9), (stpA10, stpV10), (stpA11, stpV11), (stpA12, stpV12)]
theorem stp_ok : ManyOK Try.prog 43 stpm := ⟨stp1.pure rfl trivial rfl, stp2.pure rfl trivial rfl, stp3.pure rfl trivial rfl, stp4.pure rfl trivial rfl, stp5.pure rfl trivial rfl, stp7.pure rfl trivial rfl, stp8.pure rfl trivial rfl, stp9.pure rfl trivial rfl, stp10.pure rfl trivial rfl, stp11.pure rfl trivial rfl, stp12.pure rfl trivial rfl, trivial⟩

theorem pk100 : AOwn Try.prog 43 [.isl 1 [.int .i64 1, .int .i64 0, .int .i64 0]] 7 [stA (toS 1 0 0)] := exK_own kNogr kMixed (tb := []) trivial (n := 100000) (by kernel_rfl) rfl rfl
def pkTab : KTab := (43, manyK ((pkA, pk211) :: stpm)) :: (28, oneK [] (.bool true)) :: ktPath
theorem pkTab_ok : KOK Try.prog pkTab := ⟨manyK_ok ⟨pkSteps.pure rfl trivial rfl, stp_ok⟩, oneK_ok W21.works_c, ktPath_ok⟩
set_option maxHeartbeats 8000000
def pkBad : List AV := [stpV1, stpV2, stpV3, stpV4, stpV5, .isl 7 [.agg [.int .i64 5, .int .i64 0, .int .i64 0, .int .i64 0, .int .i64 0, .int .i64 0, .int .i64 0]], .isl 7 [.agg [.int .i64 0, .int .i64 0, .int .i64 0, .int .i64 0, .int .i64 0, .int .i64 0, .int .i64 0]], .isl 7 [.agg [.int .i64 1, .int .i64 0, .int .i64 0, .int .i64 1, .int .i64 0, .int .i64 0, .int .i64 0]], .isl 7 [.agg [.int .i64 1, .int .i64 0, .int .i64 0, .int .i64 0, .int .i64 0, .int .i64 0, .int .i64 0], .agg [.int .i64 4, .int .i64 1, .int .i64 0, .int .i64 0, .int .i64 0, .int .i64 0, .int .i64 0]]]
def pkL (i : Nat) : List St := toS 1 0 0 :: List.replicate i (toS 2 1 1)
theorem pknown_go : AGo Try.prog (.call Try.f8) 0 [.code (body Try.f8)] ⟨argFr 0 [], [], [], [], 0, Try.f8.ntmps⟩ (fun av _ _ => av = .bool true) := by
  repeat' first | (refine go_ift rfl rfl rfl ?_) | (refine go_iff rfl rfl rfl ?_) | (refine go_runs rfl rfl ?_ ?_; first | exact trivial | (simp only [AllL, AllL2, Ob2.sem, elemO, lookO, ob, implL, inI64, bl, and_true, true_and]; first | omega | ((repeat' (first | apply And.intro | intro _)) <;> first | omega | rfl | decide | (rename_i h; revert h; decide) | decide +kernel)))
  refine go_h (.valv stpV1) rfl ?_ ?_
  · repeat' (first | exact trivial | exact rfl | exact stp1 | exact (Nat.le_of_ble_eq_true rfl) | apply And.intro | omega | (show _ ≠ _; decide) | (show inI64 _; unfold inI64; omega) | (simp only [AllL, AllL2, Ob2.sem, elemO, lookO, ob, implL, inI64]; omega) | exact allOne1 rfl | (simp; done) | (simp; omega))
  repeat' first | (refine go_ift rfl rfl rfl ?_) | (refine go_iff rfl rfl rfl ?_) | (refine go_runs rfl rfl ?_ ?_; first | exact trivial | (simp only [AllL, AllL2, Ob2.sem, elemO, lookO, ob, implL, inI64, bl, and_true, true_and]; first | omega | ((repeat' (first | apply And.intro | intro _)) <;> first | omega | rfl | decide | (rename_i h; revert h; decide) | decide +kernel)))
  refine go_h (.valv stpV2) rfl ?_ ?_
  · repeat' (first | exact trivial | exact rfl | exact stp2 | exact (Nat.le_of_ble_eq_true rfl) | apply And.intro | omega | (show _ ≠ _; decide) | (show inI64 _; unfold inI64; omega) | (simp only [AllL, AllL2, Ob2.sem, elemO, lookO, ob, implL, inI64]; omega) | exact allOne1 rfl | (simp; done) | (simp; omega))
  repeat' first | (refine go_ift rfl rfl rfl ?_) | (refine go_iff rfl rfl rfl ?_) | (refine go_runs rfl rfl ?_ ?_; first | exact trivial | (simp only [AllL, AllL2, Ob2.sem, elemO, lookO, ob, implL, inI64, bl, and_true, true_and]; first | omega | ((repeat' (first | apply And.intro | intro _)) <;> first | omega | rfl | decide | (rename_i h; revert h; decide) | decide +kernel)))
  refine go_h (.valv stpV3) rfl ?_ ?_
  · repeat' (first | exact trivial | exact rfl | exact stp3 | exact (Nat.le_of_ble_eq_true rfl) | apply And.intro | omega | (show _ ≠ _; decide) | (show inI64 _; unfold inI64; omega) | (simp only [AllL, AllL2, Ob2.sem, elemO, lookO, ob, implL, inI64]; omega) | exact allOne1 rfl | (simp; done) | (simp; omega))
  repeat' first | (refine go_ift rfl rfl rfl ?_) | (refine go_iff rfl rfl rfl ?_) | (refine go_runs rfl rfl ?_ ?_; first | exact trivial | (simp only [AllL, AllL2, Ob2.sem, elemO, lookO, ob, implL, inI64, bl, and_true, true_and]; first | omega | ((repeat' (first | apply And.intro | intro _)) <;> first | omega | rfl | decide | (rename_i h; revert h; decide) | decide +kernel)))
  refine go_h (.valv stpV4) rfl ?_ ?_
  · repeat' (first | exact trivial | exact rfl | exact stp4 | exact (Nat.le_of_ble_eq_true rfl) | apply And.intro | omega | (show _ ≠ _; decide) | (show inI64 _; unfold inI64; omega) | (simp only [AllL, AllL2, Ob2.sem, elemO, lookO, ob, implL, inI64]; omega) | exact allOne1 rfl | (simp; done) | (simp; omega))
  repeat' first | (refine go_ift rfl rfl rfl ?_) | (refine go_iff rfl rfl rfl ?_) | (refine go_runs rfl rfl ?_ ?_; first | exact trivial | (simp only [AllL, AllL2, Ob2.sem, elemO, lookO, ob, implL, inI64, bl, and_true, true_and]; first | omega | ((repeat' (first | apply And.intro | intro _)) <;> first | omega | rfl | decide | (rename_i h; revert h; decide) | decide +kernel)))
  refine go_h (.valv stpV5) rfl ?_ ?_
  · repeat' (first | exact trivial | exact rfl | exact stp5 | exact (Nat.le_of_ble_eq_true rfl) | apply And.intro | omega | (show _ ≠ _; decide) | (show inI64 _; unfold inI64; omega) | (simp only [AllL, AllL2, Ob2.sem, elemO, lookO, ob, implL, inI64]; omega) | exact allOne1 rfl | (simp; done) | (simp; omega))
  refine go_runN 1 rfl trivial ?_
  refine go_h .froz rfl ?_ ?_
  · repeat' (first | exact trivial | exact rfl | apply And.intro | omega | (show _ ≠ _; decide) | (show inI64 _; unfold inI64; omega) | (simp only [AllL, AllL2, Ob2.sem, elemO, lookO, ob, implL, inI64]; omega) | exact allOne1 rfl | (simp; done) | (simp; omega))
  refine go_runN 1 rfl trivial ?_
  refine go_h .froz rfl ?_ ?_
  · repeat' (first | exact trivial | exact rfl | apply And.intro | omega | (show _ ≠ _; decide) | (show inI64 _; unfold inI64; omega) | (simp only [AllL, AllL2, Ob2.sem, elemO, lookO, ob, implL, inI64]; omega) | exact allOne1 rfl | (simp; done) | (simp; omega))
  refine go_runN 4 rfl trivial ?_
  refine go_h .froz rfl ?_ ?_
  · repeat' (first | exact trivial | exact rfl | apply And.intro | omega | (show _ ≠ _; decide) | (show inI64 _; unfold inI64; omega) | (simp only [AllL, AllL2, Ob2.sem, elemO, lookO, ob, implL, inI64]; omega) | exact allOne1 rfl | (simp; done) | (simp; omega))
  refine go_h .froz rfl ?_ ?_
  · repeat' (first | exact trivial | exact rfl | apply And.intro | omega | (show _ ≠ _; decide) | (show inI64 _; unfold inI64; omega) | (simp only [AllL, AllL2, Ob2.sem, elemO, lookO, ob, implL, inI64]; omega) | exact allOne1 rfl | (simp; done) | (simp; omega))
  refine go_h (.own 7 [stA (toS 1 0 0)] 1) rfl ?_ ?_
  · repeat' (first | exact trivial | exact rfl | exact pk100 | apply And.intro | omega | (show _ ≠ _; decide) | (show inI64 _; unfold inI64; omega) | (simp only [AllL, AllL2, Ob2.sem, elemO, lookO, ob, implL, inI64]; omega) | exact allOne1 rfl | (simp; done) | (simp; omega))
  refine go_runN 3 rfl trivial ?_
  refine go_h .froz rfl ?_ ?_
  · repeat' (first | exact trivial | exact rfl | apply And.intro | omega | (show _ ≠ _; decide) | (show inI64 _; unfold inI64; omega) | (simp only [AllL, AllL2, Ob2.sem, elemO, lookO, ob, implL, inI64]; omega) | exact allOne1 rfl | (simp; done) | (simp; omega))
  refine go_append (zs := [stA (toS 1 0 0), stA ⟨4, 1, 0, 0, 0, 0, 0⟩]) (n := 2) rfl rfl rfl rfl ?_ rfl rfl ?_ ?_ ?_
  · exact ⟨by simp, trivial⟩
  · exact Nat.le_of_ble_eq_true rfl
  · exact allOnes_ok rfl
  refine go_freeze 6 [79] [] rfl ?_ ?_
  · exact ⟨by simp, trivial⟩
  refine go_runN 2 rfl trivial ?_
  repeat' first | (refine go_ift rfl rfl rfl ?_) | (refine go_iff rfl rfl rfl ?_) | (refine go_runs rfl rfl ?_ ?_; first | exact trivial | (simp only [AllL, AllL2, Ob2.sem, elemO, lookO, ob, implL, inI64, bl, and_true, true_and]; first | omega | ((repeat' (first | apply And.intro | intro _)) <;> first | omega | rfl | decide | (rename_i h; revert h; decide) | decide +kernel)))
  refine go_freeze 8 [81] [] rfl ?_ ?_
  · exact ⟨by simp, trivial⟩
  refine go_h (.own 7 [stA (toS 1 0 0)] 1) rfl ?_ ?_
  · repeat' (first | exact trivial | exact rfl | exact pk100 | apply And.intro | omega | (show _ ≠ _; decide) | (show inI64 _; unfold inI64; omega) | (simp only [AllL, AllL2, Ob2.sem, elemO, lookO, ob, implL, inI64]; omega) | exact allOne1 rfl | (simp; done) | (simp; omega))
  repeat' first | (refine go_ift rfl rfl rfl ?_) | (refine go_iff rfl rfl rfl ?_) | (refine go_runs rfl rfl ?_ ?_; first | exact trivial | (simp only [AllL, AllL2, Ob2.sem, elemO, lookO, ob, implL, inI64, bl, and_true, true_and]; first | omega | ((repeat' (first | apply And.intro | intro _)) <;> first | omega | rfl | decide | (rename_i h; revert h; decide) | decide +kernel)))
  refine go_ren 2 [(7, 0), (9, 1)] [2, 1, 0] rfl ?_ ?_
  · repeat' (first | exact trivial | exact rfl | apply And.intro | omega | (show _ ≠ _; decide) | (show inI64 _; unfold inI64; omega) | (simp only [AllL, AllL2, Ob2.sem, elemO, lookO, ob, implL, inI64]; omega) | exact allOne1 rfl | (simp; done) | (simp; omega))
  refine go_loopV (ι := Nat) (fun i => [(2, .sl 1 7 0 (i + 1))]) (fun i => [(0, .row 1 pkBad), (1, .row 7 ((pkL i).map stA))]) (fun _ => 2) (fun i => i ≤ 299) (fun i => 299 - i) 0 (by rfl) (by omega) (by exact ⟨rfl, trivial⟩) (by rfl) (by rfl) ?_
  rintro i g0 ih
  have hlen : (pkL i).length = i + 1 := by simp [pkL]
  have hsn : (pkL (i + 1)).map stA = (pkL i).map stA ++ [stA (toS 2 1 1)] := by simp [pkL, List.replicate_succ']
  have hlen2 : (pkL (i + 1)).length = i + 2 := by simp [pkL]
  generalize hb : pkBad = bad at *
  repeat' first | (refine go_ift rfl rfl rfl ?_) | (refine go_iff rfl rfl rfl ?_) | (refine go_runs rfl rfl ?_ ?_; first | exact trivial | (simp only [AllL, AllL2, Ob2.sem, elemO, lookO, ob, implL, inI64, bl, and_true, true_and]; first | omega | ((repeat' (first | apply And.intro | intro _)) <;> first | omega | rfl | decide | (rename_i h; revert h; decide) | decide +kernel)))
  refine go_if rfl rfl (fun hc => ?_) (fun hc => ?_) <;> try simp only [bl] at hc
  · repeat' first | (refine go_ift rfl rfl rfl ?_) | (refine go_iff rfl rfl rfl ?_) | (refine go_runs rfl rfl ?_ ?_; first | exact trivial | (simp only [AllL, AllL2, Ob2.sem, elemO, lookO, ob, implL, inI64, bl, and_true, true_and]; first | omega | ((repeat' (first | apply And.intro | intro _)) <;> first | omega | rfl | decide | (rename_i h; revert h; decide) | decide +kernel)))
    refine go_freeze 2 [87] [] rfl ?_ ?_
    · exact ⟨by simp, trivial⟩
    refine go_h (.valv pk211) rfl ?_ ?_
    · repeat' (first | exact trivial | exact rfl | exact pkSteps | apply And.intro | omega | (show _ ≠ _; decide) | (show inI64 _; unfold inI64; omega) | (simp only [AllL, AllL2, Ob2.sem, elemO, lookO, ob, implL, inI64]; omega) | exact allOne1 rfl | (simp; done) | (simp; omega))
    refine go_append (zs := (pkL (i + 1)).map stA) (n := i + 2) rfl rfl rfl rfl ?_ ?_ ?_ ?_ ?_ ?_
    · exact ⟨by simp [hlen], trivial⟩
    · rw [List.take_of_length_le (by simp [hlen]), hsn]; rfl
    · simp [hlen2]
    · simp [hlen2]; omega
    · exact allOne1 rfl
    repeat' first | (refine go_ift rfl rfl rfl ?_) | (refine go_iff rfl rfl rfl ?_) | (refine go_runs rfl rfl ?_ ?_; first | exact trivial | (simp only [AllL, AllL2, Ob2.sem, elemO, lookO, ob, implL, inI64, bl, and_true, true_and]; first | omega | ((repeat' (first | apply And.intro | intro _)) <;> first | omega | rfl | decide | (rename_i h; revert h; decide) | decide +kernel)))
    refine go_ren 2 [(0, 0), (3, 1)] [2, 1, 0] rfl ?_ ?_
    · exact ⟨by rw [← hb]; rfl, pureSt _, trivial⟩
    refine go_back (ih (i + 1) (by omega) (by omega)) rfl rfl ?_
    exact ⟨rfl, rfl, rfl, trivial⟩
  have hi : i = 299 := by omega
  subst hi
  subst hb
  exact go_exK kNogr kMixed (tb := pkTab) pkTab_ok (n := 1000000) (by kernel_rfl) (fun _ _ => rfl)
theorem pknown : APure Try.prog 8 [] (.bool true) := pure_of Try.func8 rfl rfl rfl pknown_go rfl rfl
end Go.Proofs.Ytbijjbmlndgjnaa.Ab
