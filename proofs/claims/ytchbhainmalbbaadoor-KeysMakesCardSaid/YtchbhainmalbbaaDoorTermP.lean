/- The library's ParseInt at a text of digits, its worlds told by 'Below'. -/
import Derived.Test.YtchbhainmalbbaaDoorTermN
namespace Go.Proofs.YtchbhainmalbbaaDoor
open Go.RowKit

/-- What the package variables hold that the library reads. -/
def GErr (w : World) : Prop := (∃ tp p, w.var? Tryd.prog "strconv.ErrSyntax" = some #[.iface tp p]) ∧ (∃ tp p, w.var? Tryd.prog "strconv.ErrRange" = some #[.iface tp p])

theorem below_bytesWorld (w : World) (t : ByteArray) : Below w.heap.size w (Lib.bytesWorld w 5 t) := by
  refine ⟨?_, ?_, ?_, ?_, ?_⟩
  · unfold Lib.bytesWorld World.freeze; split <;> rfl
  · unfold Lib.bytesWorld World.freeze; split <;> rfl
  · unfold Lib.bytesWorld World.freeze; split <;> rfl
  · unfold Lib.bytesWorld World.freeze
    split
    · show w.heap.size ≤ (w.heap.push _).size
      simp
    · show w.heap.size ≤ ((w.heap.push _).modify _ _).size
      simp
  · intro k hk
    unfold Lib.bytesWorld World.freeze
    split
    · show (w.heap.push _)[k]? = _
      rw [Array.getElem?_push, if_neg (by omega)]
    · show ((w.heap.push _).modify _ _)[k]? = _
      rw [Array.getElem?_modify, if_neg (by simp only; omega), Array.getElem?_push, if_neg (by omega)]

def ParsePost (w : World) (o : Option Nat) (e : Ending) (w' : World) : Prop :=
  Below w.heap.size w w' ∧
  match o with
  | some n => e = .returned (.tuple #[.int .i64 n, .nilIface])
  | none => ∃ (v : Int) (T N : Nat), e = .returned (.tuple #[.int .i64 v, .iface T (.pointer (some ⟨N, 0, none⟩))])

theorem tParse (p : List UInt8) (hp : p.length ≤ 19) (hd : 48 ≤ (head p).toNat) (w : World) (hG : GErr w) :
    Calls Tryd.prog 150 #[.string (bs p), .int .i64 10, .int .i64 64] w
      (ParsePost w (parsed p)) := by
  show Calls _ _ _ w (ParsePost w (match Lib.parseIntB 64 p with | .ok v => some v.toNat | _ => none))
  obtain ⟨⟨t1, p1, h1⟩, ⟨t2, p2, h2⟩⟩ := hG
  have hs : (bs p).size ≤ 19 := by rw [bs_size]; exact hp
  cases h : Lib.parseIntB 64 p
  case ok v =>
    have hv : 0 ≤ v := by
      cases p with
      | nil => simp [Lib.parseIntB] at h
      | cons c r =>
        have hc : 48 ≤ c.toNat := hd
        have h45 : ¬ c.toNat = 45 := by omega
        simp only [Lib.parseIntB, h45, not_false_eq_true, true_and, false_and, if_false] at h
        split at h
        · simp at h
        · simp at h
        · split at h
          · simp at h
          · simp only [Lib.NumEnd.ok.injEq] at h; omega
    have := Tryd.strconv_ParseInt_10_at64_ok (bs p) (by omega) v (by rw [bs_data]; exact h) w
    refine this.mono fun e w' ⟨he, hw⟩ => ⟨?_, ?_⟩
    · rcases hw with rfl | ⟨t, rfl⟩
      · exact Below.refl _ _
      · exact below_bytesWorld w t
    · rw [he]
      show Ending.returned _ = Ending.returned (.tuple #[.int .i64 (v.toNat : Nat), .nilIface])
      rw [Int.toNat_of_nonneg hv]
  case range =>
    have := Tryd.strconv_ParseInt_10_at64_range_var (bs p) (by omega) (by rw [bs_data]; exact h) t2 p2 w h2
    exact this.mono fun e w' ⟨N, he, _, _, hb⟩ => ⟨hb, _, _, N, he⟩
  have := Any.strconv_ParseInt_10_at64_syntax_var Tryd.laysC174 (bs p) (by omega) (by rw [bs_data]; exact h) t1 p1 w h1
  exact this.mono fun e w' ⟨N, he, _, _, hb⟩ => ⟨hb, _, _, N, he⟩

end Go.Proofs.YtchbhainmalbbaaDoor
