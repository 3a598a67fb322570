/- Sorting numbers: slices.Sort at uint64. -/
import Derived.Test.YtldiginkmmlojaaSoL
namespace Go.Proofs.Ytldiginkmmlojaa
set_option linter.unusedVariables false
set_option linter.unusedSimpArgs false
open Go.RowKit Go.Proofs.YtldiginkmmlojaaW.PrintWords
open Go.Sort (ltInt bitsLen)

/-- The numbers, sorted. -/
def sorted64 (xs : List Int) : List Int := xs.mergeSort (fun x y => decide (x ≤ y))
set_option maxRecDepth 100000 in
set_option maxHeartbeats 4000000 in
theorem sort64_any (base g n c : Nat) (xs : List Int) (w : World) (h : Kd.R (Kd.int .u64) 37 w base (fun _ => True) (.slice (some ⟨g, 0, none⟩) n c) xs) (hn : n ≤ 49) :
    Calls Try.prog 90 #[.slice (some ⟨g, 0, none⟩) n c] w fun e w' => e = .returned (.tuple #[]) ∧ Kd.R (Kd.int .u64) 37 w' base (fun _ => True) (.slice (some ⟨g, 0, none⟩) n c) (sorted64 xs) ∧ Below base w w' := by
  have hnl : xs.length = n := ((Kd.R_reads' h).1).symm
  have HD := Aside0.mk (show DR w base g n c xs.toArray from ⟨by simpa using h, by simpa using hnl⟩)
  have HS := Aside0.mk (show (Sort.pdq ltInt xs.toArray 0 n (bitsLen n) true true).toList = sorted64 xs by
    have := Sort.sortInt xs
    rw [← hnl]
    unfold Sort.sort at this
    show _ = xs.mergeSort (fun x y => decide (x ≤ y))
    simpa using this)
  obtain ⟨e1, e2⟩ := bits_eq n (by omega)
  obtain ⟨k, hk⟩ : ∃ k, k = bitsLen n := ⟨_, rfl⟩
  rw [← hk] at e1 e2 HS
  have HL := Aside0.mk (show ∀ W, Calls Try.prog 97 #[.int .u64 (n : Int)] W fun e w' => e = .returned (.int .i64 (k : Int)) ∧ w' = W from fun W => by
    have := len_any (n : Int) W (by omega) (by omega)
    rwa [Int.toNat_natCast, e1] at this)
  have HP := Aside0.mk (show Calls Try.prog 96 #[.slice (some ⟨g, 0, none⟩) n c, .int .i64 0, .int .i64 (n : Int), .int .i64 (k : Int)] w _ from pdq_any n base g n c 0 n k xs.toArray w (by omega) HD.out (Nat.zero_le _) (Nat.le_refl _) hn (by omega))
  have hwn : IntKind.u64.wrap (n : Int) = (n : Int) := by rw [IntKind.wrap_u64]; omega
  clear h hnl hk e1
  go_enter Try.func90, Try.ntmps90
  go_wp2_with (first
    | (go_at_call 97; refine (HL.out _).mono ?_; rintro e w' ⟨rfl, rfl⟩)
    | (go_at_call 96; refine HP.out.mono ?_; rintro e w1 ⟨rfl, hd, hb⟩; have HR := Aside0.mk hd.row; have HB := Aside0.mk hb; clear hd hb))
  first | go_end0 | ((try simp only [Exit.inBlock, Exit.then]); refine bodyPost_ret (results_none rfl _ _ _) rfl ?_)
  exact ⟨rfl, by rw [← HS.out]; exact HR.out, HB.out⟩
end Go.Proofs.Ytldiginkmmlojaa
