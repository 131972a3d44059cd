/- Bytes out of a text; bytes appended to them; a text out of bytes. -/
import Derived.Test.YtembdkodajichaaGreatDoorByteR
import Derived.Laws.IdiomStrings
import Derived.Laws.IdiomCopy
import Derived.Laws.BytesArg
import Derived.ArgAppend
set_option linter.unusedSimpArgs false
set_option linter.unusedVariables false
namespace Go.Proofs.YtembdkodajichaaGreatDoor
open Go.RowKit
def CvAt (v : Value) (l : List UInt8) (w : World) : Prop := ∃ G c cur fz, v = .slice (some ⟨G, 0, none⟩) l.length c ∧ l.length ≤ c ∧ c ≤ maxLen ∧ w.heap[G]? = some (.cells cur 5 fz) ∧ cur.size ≤ fz.1 ∧ cur.size = c ∧ cur.toList.take l.length = u8L l
theorem cvAt_gl {v : Value} {l : List UInt8} {w w' : World} (h : CvAt v l w) (hg : GL [] w w') : CvAt v l w' := by
 obtain ⟨G, c, cur, fz, h1, h2, h3, h4, h5⟩ := h
 exact ⟨G, c, cur, fz, h1, h2, h3, blk_gl h4 hg si_, h5⟩
theorem cvAt_below {v : Value} {l : List UInt8} {w w' : World} (h : CvAt v l w) (hg : Below w.heap.size w w') : CvAt v l w' := by
 obtain ⟨G, c, cur, fz, h1, h2, h3, h4, h5⟩ := h
 exact ⟨G, c, cur, fz, h1, h2, h3, blk_below h4 hg (blk_lt h4), h5⟩
theorem u8L_at {l : List UInt8} {cur : Array Value} (h : cur.toList.take l.length = u8L l) (j : Nat) (hj : j < l.length) : cur[j]? = some (.int .u8 (l.getD j 0).toNat) := by
 have h2 := congrArg (fun x => x[j]?) h
 simp only [List.getElem?_take_of_lt hj, Array.getElem?_toList] at h2
 rw [h2]
 unfold u8L
 rw [List.getElem?_map, List.getElem?_eq_getElem hj, List.getD_eq_getElem?_getD, List.getElem?_eq_getElem hj]
 rfl
theorem cvAt_in {v : Value} {l : List UInt8} {w : World} (h : CvAt v l w) : InAt v l w := by
 obtain ⟨G, c, cur, fz, rfl, h2, h3, h4, h5, h6, h7⟩ := h
 refine inAt_mk rfl h2 fun _ => ⟨G, 0, rfl, blk_lt h4, fun j hj => ?_⟩
 rw [Nat.zero_add, blk_cell h4]
 exact u8L_at h7 j hj
theorem run_conv (src : TypeId) (hs : Tryz.prog.underlying src = some .string) (l : List UInt8) (w : World) (hl : l.length ≤ 1000000000000) :
  ∃ c w', (convert src 47 (.string (bs l))).run Tryz.prog w = .ok (.slice (some ⟨w.heap.size, 0, none⟩) l.length c) w' ∧ CvAt (.slice (some ⟨w.heap.size, 0, none⟩) l.length c) l w' ∧ GL [] w w' := by
 have h := run_bytes_of_string (P := Tryz.prog) w src 47 5 (bs l) hs Tryz.underlying47 Tryz.underlying5
 rw [bs_size] at h
 refine ⟨_, _, h, ⟨w.heap.size, _, _, _, rfl, ?_, ?_, blk_new w.drew _, ?_, ?_, ?_⟩, gl_alloc (gl_drew (gl_refl _ _)) _⟩
 · have := grownCap_ge w l.length 0 5; omega
 · exact grownCap_le_maxLen w l.length 0 _ (by unfold maxLen; omega)
 · exact Nat.le_refl _
 · have := grownCap_ge w l.length 0 5
   have e : (bs l).data.size = l.length := bs_size l
   unfold bytesRow
   rw [Array.size_append, Array.size_map, Array.size_replicate, e, bs_size]
   omega
 · have e : (bs l).data.toList = l := bs_data l
   unfold bytesRow u8L
   rw [Array.toList_append, Array.toList_map, e, List.take_left' si_]
theorem run_appC (v yv : Value) (l ys : List UInt8) (w : World) (hin : CvAt v l w) (hy : 0 < ys.length) (hiy : InAt yv ys w) (hlen : l.length + ys.length ≤ 1000000000000) :
  ∃ ad c w', (Builtin.append_ #[47, 47] 47 #[v, yv]).run Tryz.prog w = .ok (.slice ad (l.length + ys.length) c) w' ∧ InAt (.slice ad (l.length + ys.length) c) (l ++ ys) w' ∧ ∃ G, v.ownBlock = some G ∧ GL [G] w w' := by
 obtain ⟨t0, ht0, ht1, ht2, ht3⟩ := info_parts Tryz.infoB8
 obtain ⟨G, c, cur, fz, rfl, h2, h3, h4, h5, h6, h7⟩ := hin
 obtain ⟨a2, c2, rfl, hc2, hb2⟩ := inAt_form hiy
 obtain ⟨G2, o2, rfl, hB2, hj2⟩ := hb2 (List.length_pos_iff.1 hy)
 have hcells : ∀ (j : Nat) (u : Value), (u8L ys)[j]? = some u → w.cell? ((⟨G2, o2, none⟩ : Addr).add j) = some u := fun j u hj => by
  obtain ⟨h1, rfl⟩ := u8L_get _ j u hj
  have := hj2 j h1
  have e : (⟨G2, o2, none⟩ : Addr).add j = ⟨G2, o2 + j, none⟩ := by unfold Addr.add; split <;> simp_all
  rw [e]
  exact this
 have hone : ∀ u ∈ u8L ys, u.oneCell' = true := fun x hx => by
  unfold u8L at hx
  obtain ⟨y, _, rfl⟩ := List.mem_map.1 hx
  rfl
 have hul : (u8L ys).length = ys.length := u8L_len _
 by_cases hr : l.length + ys.length ≤ c
 · have hrun := run_append_room_cells (P := Tryz.prog) w 47 47 5 t0 Tryz.underlying47 ht0 G 0 l.length c ⟨G2, o2, none⟩ ys.length c2 (u8L ys) (by rw [ht2]; omega) hcells hone hr
    (fun j hj => by
      rw [ht2, Nat.mul_one, Nat.zero_add, blk_cell h4]
      rw [Array.getElem?_eq_getElem om_]
      rfl)
    (fun j hj => by
      rw [ht2, Nat.mul_one, Nat.zero_add]
      simp only [World.frozen?, h4]
      simp
      omega)
   refine ⟨_, _, _, hrun, ?_, G, rfl, gl_setCells (.inl si_) _ _ _ (gl_refl _ _)⟩
   rw [ht2, Nat.mul_one, Nat.zero_add]
   refine inAt_mk (by rw [List.length_append]) (by rw [List.length_append]; omega) fun _ => ⟨G, 0, rfl, by
    have := (gl_setCells (rs := [G]) (w := w) (b := G) (.inl si_) (u8L ys) l.length w (gl_refl _ _)).size
    exact Nat.lt_of_lt_of_le (blk_lt h4) this, fun j hj => ?_⟩
   rw [List.length_append] at hj
   rw [Nat.zero_add]
   by_cases hjl : j < l.length
   · rw [World.cell?_setCells_out G (u8L ys) l.length w ⟨G, j, none⟩ (fun _ _ => .inl hjl), blk_cell h4, u8L_at h7 j hjl, List.getD_eq_getElem?_getD, List.getD_eq_getElem?_getD, List.getElem?_append_left hjl]
   · have := World.cell?_setCells_in G (u8L ys) l.length w (fun k hk => by
      rw [blk_cell h4, Array.getElem?_eq_getElem om_]; rfl) (j - l.length) om_
     rw [show l.length + (j - l.length) = j by omega] at this
     rw [this, List.getD_eq_getElem?_getD, List.getElem?_append_right om_, List.getElem?_eq_getElem (by omega : j - l.length < ys.length)]
     unfold u8L
     simp
 · obtain ⟨v', w', hrun, hown, hgr⟩ := run_append_arg_grows (P := Tryz.prog) w 47 47 5 t0 (.int .u8 0) 1 1 Tryz.underlying47 ht0 ht1 ht2 ht3 rfl de_ ⟨G, 0, none⟩ l.length c (u8L l) (by rw [u8L_len]; omega)
    (fun j u hj => by
      obtain ⟨h1, rfl⟩ := u8L_get _ j u hj
      have e : (⟨G, 0, none⟩ : Addr).add j = ⟨G, j, none⟩ := by unfold Addr.add; split <;> simp_all
      rw [e, blk_cell h4, u8L_at h7 j h1]) ⟨G2, o2, none⟩ ys.length c2 (u8L ys) om_ hcells om_ (by unfold maxLen; omega) om_
   have hown2 : OwnB w.heap.size v' (l ++ ys) w' := by
    unfold OwnB
    rw [List.length_append]
    have e : u8L (l ++ ys) = u8L l ++ u8L ys := by simp [u8L]
    rw [e]
    exact hown
   obtain ⟨ad, c', rfl⟩ := ownB_form hown2
   have hin2 := (ownB_in hown2).1
   rw [List.length_append] at hin2 hrun
   exact ⟨ad, c', w', hrun, hin2, G, rfl, gl_grown hgr (gl_refl _ _) si_⟩
theorem run_back (dst : TypeId) (hd : Tryz.prog.underlying dst = some .string) (v : Value) (l : List UInt8) (w : World) (h : InAt v l w) :
  (convert 47 dst v).run Tryz.prog w = .ok (.string (bs l)) w := by
 obtain ⟨a, c, rfl, hc, hb⟩ := inAt_form h
 by_cases hl : l = []
 · subst hl
   cases a with
   | none => exact run_convert_bytes_nil (P := Tryz.prog) (w := w) 47 5 Tryz.underlying47 Tryz.underlying5 0 c dst hd
   | some a' =>
     exact run_convert_bytes_back (P := Tryz.prog) w 47 dst 5 a' c [] Tryz.underlying47 Tryz.underlying5 hd (fun j hj => by simp at hj)
 · obtain ⟨G, o, rfl, hB, hj⟩ := hb hl
   refine run_convert_bytes_back (P := Tryz.prog) w 47 dst 5 ⟨G, o, none⟩ c l Tryz.underlying47 Tryz.underlying5 hd (fun j hjl => ?_)
   have e : (⟨G, o, none⟩ : Addr).add j = ⟨G, o + j, none⟩ := by unfold Addr.add; split <;> simp_all
   rw [e, hj j hjl, List.getD_eq_getElem?_getD, List.getElem?_eq_getElem hjl]
   rfl
end Go.Proofs.YtembdkodajichaaGreatDoor
