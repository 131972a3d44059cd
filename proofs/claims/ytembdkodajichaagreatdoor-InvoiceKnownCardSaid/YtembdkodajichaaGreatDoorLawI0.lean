/- Invoices' laws: a sample, plain. -/
import Derived.Test.YtembdkodajichaaGreatDoorInvP
set_option linter.unusedSimpArgs false
set_option linter.unusedVariables false
namespace Go.Proofs.YtembdkodajichaaGreatDoor
open Go.RowKit
theorem q_body (x : Inv) : Q 1 86 (bodyT x) := by
 have h := q_text (hexT (hrpI x ++ wordsI x)) (by rw [hexT_len]; omega)
 rw [hexT_len] at h
 exact h
theorem keyT_name (k : Nat) (hk : k ≤ 9223372036854775807) : keyT (nameL k) = 80 :: nameL k := by
 have hq := q_name k hk
 have h := pubT_plain hq (by simp [nameL, head]) (by simp [nameL, head]) om_ om_
 have hr := q_right hq om_ om_
 unfold pubT at h
 rw [if_pos hr] at h
 unfold made at h
 split at h
 · exact (Prod.mk.inj h).1
 · cases h
theorem sign_name (k : Nat) (hk : k ≤ 9223372036854775807) (b : List UInt8) (hb : Q 1 86 b) : twoT 83 (nameL k) b = (83 :: (nameL k ++ b), 0) :=
 twoT_at de_ (by simp [fitsB]) (q_name k hk) hb om_ om_
theorem verify_name (k : Nat) (hk : k ≤ 9223372036854775807) (b : List UInt8) (hb : Q 1 86 b) : verifyT (80 :: nameL k) b (83 :: (nameL k ++ b)) = true := by
 obtain ⟨s, h1, h2, h3⟩ := rt_two_at (c := 83) de_ (by simp [fitsB]) (q_name k hk) hb om_ om_
 unfold verifyT
 rw [h1]
 simp [h2, h3, keyT_name k hk]
def sample0 : Inv := ⟨250000000, 1700000000, [72, 110, 55, 59], [80, 110, 53, 59], [116, 101, 97], 3600, 40, []⟩
def sampleI : Inv := { sample0 with sig := 83 :: ([110, 53, 59] ++ bodyT sample0) }
theorem name_five : nameL 5 = [110, 53, 59] := by decide +kernel
theorem sample_body : bodyT sampleI = bodyT sample0 := rfl
theorem sample_may : mayI sample0 = true := by decide +kernel
theorem sample_sig : twoT 83 [110, 53, 59] (bodyT sample0) = (sampleI.sig, 0) := by
 have := sign_name 5 om_ (bodyT sample0) (q_body _)
 rw [name_five] at this
 exact this
theorem sample_enc : encIE sampleI = 0 := by
 have hq := (q_body sample0).2
 refine zero_enc sampleI de_ sample_may (by show (83 :: ([110, 53, 59] ++ bodyT sample0)).length ≤ 639; simp; omega) ?_
 have := verify_name 5 om_ (bodyT sample0) (q_body _)
 rw [name_five] at this
 exact this
theorem sample_hrp : hrpI sampleI = [108, 110, 115, 119, 50, 53, 48, 48, 117] := by decide +kernel
theorem sample_text : ∃ r, encIT sampleI = [108, 110, 115, 119, 50, 53, 48, 48, 117] ++ 49 :: r := ⟨_, by unfold encIT encT; rw [sample_hrp]⟩
theorem sample_len : 10 ≤ (encIT sampleI).length ∧ (encIT sampleI).length ≤ 32768 ∧ (encIT sampleI).take 9 = [108, 110, 115, 119, 50, 53, 48, 48, 117] := by
 obtain ⟨r, h⟩ := sample_text
 obtain ⟨h1, h2, h3, h4⟩ := enc_zero _ sample_enc
 have h5 := (allW_lt sampleI h2 h3).2
 refine ⟨by rw [h]; simp, ?_, by rw [h]; rfl⟩
 unfold encIT encT
 rw [sample_hrp]
 simp [sixW]
 omega
end Go.Proofs.YtembdkodajichaaGreatDoor
