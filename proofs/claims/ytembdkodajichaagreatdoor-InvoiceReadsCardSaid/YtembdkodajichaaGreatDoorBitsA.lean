/- The program's bech: numbers of so many bits cut into such of others. -/
import Derived.Test.YtembdkodajichaaGreatDoorByteR
import Derived.Laws.IdiomStrings
import Derived.Laws.IdiomCopy
import Derived.Laws.BytesArg
import Derived.ArgAppend
import Derived.Test.YtembdkodajichaaGreatDoorBechB
import Derived.Test.YtembdkodajichaaGreatDoorDigP
import Derived.Deep.RegionLaw
set_option linter.unusedSimpArgs false
set_option linter.unusedVariables false
set_option maxRecDepth 100000
set_option maxHeartbeats 4000000
namespace Go.Proofs.YtembdkodajichaaGreatDoor
open Go.RowKit
def CvAt (v : Value) (l : List UInt8) (w : World) : Prop := ∃ G c cur fz, v = .slice (some ⟨G, 0, none⟩) l.length c ∧ l.length ≤ c ∧ c ≤ maxLen ∧ w.heap[G]? = some (.cells cur 5 fz) ∧ cur.size ≤ fz.1 ∧ cur.size = c ∧ cur.toList.take l.length = u8L l
theorem zjm_ {v : Value} {l : List UInt8} {w w' : World} (h : CvAt v l w) (hg : Below w.heap.size w w') : CvAt v l w' := by
 obtain ⟨G, c, cur, fz, h1, h2, h3, h4, h5⟩ := h
 exact ⟨G, c, cur, fz, h1, h2, h3, x0_ h4 hg (z4_ h4), h5⟩
theorem zfz_ {l : List UInt8} {cur : Array Value} (h : cur.toList.take l.length = u8L l) (j : Nat) (hj : j < l.length) : cur[j]? = some (.int .u8 (l.getD j 0).toNat) := by
 have h2 := congrArg (fun x => x[j]?) h
 simp only [List.getElem?_take_of_lt hj, Array.getElem?_toList] at h2
 rw [h2]
 unfold u8L
 rw [List.getElem?_map, List.getElem?_eq_getElem hj, List.getD_eq_getElem?_getD, List.getElem?_eq_getElem hj]
 rfl
theorem zjn_ {v : Value} {l : List UInt8} {w : World} (h : CvAt v l w) : x8_ v l w := by
 obtain ⟨G, c, cur, fz, rfl, h2, h3, h4, h5, h6, h7⟩ := h
 refine zbQ_ rfl h2 fun _ => ⟨G, 0, rfl, z4_ h4, fun j hj => ?_⟩
 rw [Nat.zero_add, z0_ h4]
 exact zfz_ h7 j hj
theorem zfA_ (src : TypeId) (hs : Tryz.prog.underlying src = some .string) (l : List UInt8) (w : World) (hl : l.length ≤ 1000000000000) :
  ∃ c w', (convert src 47 (.string (bs l))).run Tryz.prog w = .ok (.slice (some ⟨w.heap.size, 0, none⟩) l.length c) w' ∧ CvAt (.slice (some ⟨w.heap.size, 0, none⟩) l.length c) l w' ∧ GL [] w w' := by
 have h := run_bytes_of_string (P := Tryz.prog) w src 47 5 (bs l) hs Tryz.underlying47 Tryz.underlying5
 rw [zaL_] at h
 refine ⟨_, _, h, ⟨w.heap.size, _, _, _, rfl, ?_, ?_, y8_ w.drew _, ?_, ?_, ?_⟩, y2_ (x9_ (y1_ _ _)) _⟩
 · have := grownCap_ge w l.length 0 5; omega
 · exact grownCap_le_maxLen w l.length 0 _ (by unfold maxLen; omega)
 · exact Nat.le_refl _
 · have := grownCap_ge w l.length 0 5
   have e : (bs l).data.size = l.length := zaL_ l
   unfold bytesRow
   rw [Array.size_append, Array.size_map, Array.size_replicate, e, zaL_]
   omega
 · have e : (bs l).data.toList = l := za3_ l
   unfold bytesRow u8L
   rw [Array.toList_append, Array.toList_map, e, List.take_left' si_]
theorem zjo_ (v yv : Value) (l ys : List UInt8) (w : World) (hin : CvAt v l w) (hy : 0 < ys.length) (hiy : x8_ yv ys w) (hlen : l.length + ys.length ≤ 1000000000000) :
  ∃ ad c w', (Builtin.append_ #[47, 47] 47 #[v, yv]).run Tryz.prog w = .ok (.slice ad (l.length + ys.length) c) w' ∧ x8_ (.slice ad (l.length + ys.length) c) (l ++ ys) w' ∧ ∃ G, v.ownBlock = some G ∧ GL [G] w w' := by
 obtain ⟨t0, ht0, ht1, ht2, ht3⟩ := info_parts Tryz.infoB8
 obtain ⟨G, c, cur, fz, rfl, h2, h3, h4, h5, h6, h7⟩ := hin
 obtain ⟨a2, c2, rfl, hc2, hb2⟩ := j6_ hiy
 obtain ⟨G2, o2, rfl, hB2, hj2⟩ := hb2 (List.length_pos_iff.1 hy)
 have hcells : ∀ (j : Nat) (u : Value), (u8L ys)[j]? = some u → w.cell? ((⟨G2, o2, none⟩ : Addr).add j) = some u := fun j u hj => by
  obtain ⟨h1, rfl⟩ := zex_ _ j u hj
  have := hj2 j h1
  have e : (⟨G2, o2, none⟩ : Addr).add j = ⟨G2, o2 + j, none⟩ := by unfold Addr.add; split <;> simp_all
  rw [e]
  exact this
 have hone : ∀ u ∈ u8L ys, u.oneCell' = true := fun x hx => by
  unfold u8L at hx
  obtain ⟨y, _, rfl⟩ := List.mem_map.1 hx
  rfl
 have hul : (u8L ys).length = ys.length := zaj_ _
 by_cases hr : l.length + ys.length ≤ c
 · have hrun := run_append_room_cells (P := Tryz.prog) w 47 47 5 t0 Tryz.underlying47 ht0 G 0 l.length c ⟨G2, o2, none⟩ ys.length c2 (u8L ys) (by rw [ht2]; omega) hcells hone hr
    (fun j hj => by
      rw [ht2, Nat.mul_one, Nat.zero_add, z0_ h4]
      rw [Array.getElem?_eq_getElem om_]
      rfl)
    (fun j hj => by
      rw [ht2, Nat.mul_one, Nat.zero_add]
      simp only [World.frozen?, h4]
      simp
      omega)
   refine ⟨_, _, _, hrun, ?_, G, rfl, zce_ (.inl si_) _ _ _ (y1_ _ _)⟩
   rw [ht2, Nat.mul_one, Nat.zero_add]
   refine zbQ_ (by rw [List.length_append]) (by rw [List.length_append]; omega) fun _ => ⟨G, 0, rfl, by
    have := (zce_ (rs := [G]) (w := w) (b := G) (.inl si_) (u8L ys) l.length w (y1_ _ _)).size
    exact Nat.lt_of_lt_of_le (z4_ h4) this, fun j hj => ?_⟩
   rw [List.length_append] at hj
   rw [Nat.zero_add]
   by_cases hjl : j < l.length
   · rw [World.cell?_setCells_out G (u8L ys) l.length w ⟨G, j, none⟩ (fun _ _ => .inl hjl), z0_ h4, zfz_ h7 j hjl, List.getD_eq_getElem?_getD, List.getD_eq_getElem?_getD, List.getElem?_append_left hjl]
   · have := World.cell?_setCells_in G (u8L ys) l.length w (fun k hk => by
      rw [z0_ h4, Array.getElem?_eq_getElem om_]; rfl) (j - l.length) om_
     rw [show l.length + (j - l.length) = j by omega] at this
     rw [this, List.getD_eq_getElem?_getD, List.getElem?_append_right om_, List.getElem?_eq_getElem (by omega : j - l.length < ys.length)]
     unfold u8L
     simp
 · obtain ⟨v', w', hrun, hown, hgr⟩ := run_append_arg_grows (P := Tryz.prog) w 47 47 5 t0 (.int .u8 0) 1 1 Tryz.underlying47 ht0 ht1 ht2 ht3 rfl de_ ⟨G, 0, none⟩ l.length c (u8L l) (by rw [zaj_]; omega)
    (fun j u hj => by
      obtain ⟨h1, rfl⟩ := zex_ _ j u hj
      have e : (⟨G, 0, none⟩ : Addr).add j = ⟨G, j, none⟩ := by unfold Addr.add; split <;> simp_all
      rw [e, z0_ h4, zfz_ h7 j h1]) ⟨G2, o2, none⟩ ys.length c2 (u8L ys) om_ hcells om_ (by unfold maxLen; omega) om_
   have hown2 : x1_ w.heap.size v' (l ++ ys) w' := by
    unfold x1_
    rw [List.length_append]
    have e : u8L (l ++ ys) = u8L l ++ u8L ys := by simp [u8L]
    rw [e]
    exact hown
   obtain ⟨ad, c', rfl⟩ := zaO_ hown2
   have hin2 := (zaT_ hown2).1
   rw [List.length_append] at hin2 hrun
   exact ⟨ad, c', w', hrun, hin2, G, rfl, zcu_ hgr (y1_ _ _) si_⟩
theorem zeE_ (dst : TypeId) (hd : Tryz.prog.underlying dst = some .string) (v : Value) (l : List UInt8) (w : World) (h : x8_ v l w) :
  (convert 47 dst v).run Tryz.prog w = .ok (.string (bs l)) w := by
 obtain ⟨a, c, rfl, hc, hb⟩ := j6_ h
 by_cases hl : l = []
 · subst hl
   cases a with
   | none => exact run_convert_bytes_nil (P := Tryz.prog) (w := w) 47 5 Tryz.underlying47 Tryz.underlying5 0 c dst hd
   | some a' =>
     exact run_convert_bytes_back (P := Tryz.prog) w 47 dst 5 a' c [] Tryz.underlying47 Tryz.underlying5 hd (fun j hj => by simp at hj)
 · obtain ⟨G, o, rfl, hB, hj⟩ := hb hl
   refine run_convert_bytes_back (P := Tryz.prog) w 47 dst 5 ⟨G, o, none⟩ c l Tryz.underlying47 Tryz.underlying5 hd (fun j hjl => ?_)
   have e : (⟨G, o, none⟩ : Addr).add j = ⟨G, o + j, none⟩ := by unfold Addr.add; split <;> simp_all
   rw [e, hj j hjl, List.getD_eq_getElem?_getD, List.getElem?_eq_getElem hjl]
   rfl
theorem zeF_ (b : Nat) (l : List UInt8) (j : Nat) (h : j < l.length) : y3_ b (l.take (j + 1)) = y3_ b (l.take j) * b + (l.getD j 0).toNat := by
 rw [List.take_add_one, List.getElem?_eq_getElem h, Option.toList_some, zcy_, List.getD_eq_getElem?_getD, List.getElem?_eq_getElem h]
 rfl
theorem zfB_ (a b : Nat) (ha : a < 4611686018427387904) (hb : b < 4611686018427387904) : bits .or .i64 (a : Int) (b : Int) = ((a ||| b : Nat) : Int) := by
 show IntKind.i64.wrap (((BitVec.ofInt 64 (a : Int) ||| BitVec.ofInt 64 (b : Int)).toNat : Nat) : Int) = _
 have h : a ||| b < 2 ^ 62 := Nat.or_lt_two_pow ha hb
 rw [BitVec.toNat_or, BitVec.ofInt_natCast, BitVec.ofInt_natCast, BitVec.toNat_ofNat, BitVec.toNat_ofNat, Nat.mod_eq_of_lt om_, Nat.mod_eq_of_lt om_, IntKind.wrap_i64]
 omega
theorem zfC_ (h x f : Nat) (hx : x < 2 ^ f) : h * 2 ^ f ||| x = h * 2 ^ f + x := by
 have := Nat.two_pow_add_eq_or_of_lt hx h
 rw [Nat.mul_comm h, this]
theorem zap_ (a n : Nat) (ha : a < 4611686018427387904) (hn : n ≤ 20) (M : Int) (hM : M = ((2 ^ n - 1 : Nat) : Int)) : bits .and .i64 (a : Int) M = ((a % 2 ^ n : Nat) : Int) := by
 subst hM
 have h2 : 2 ^ n ≤ 2 ^ 20 := Nat.pow_le_pow_right om_ hn
 show IntKind.i64.wrap (((BitVec.ofInt 64 (a : Int) &&& BitVec.ofInt 64 ((2 ^ n - 1 : Nat) : Int)).toNat : Nat) : Int) = _
 rw [BitVec.toNat_and, BitVec.ofInt_natCast, BitVec.ofInt_natCast, BitVec.toNat_ofNat, BitVec.toNat_ofNat, Nat.mod_eq_of_lt om_, Nat.mod_eq_of_lt om_, Nat.and_two_pow_sub_one_eq_mod, IntKind.wrap_i64]
 have := Nat.mod_le a (2 ^ n)
 omega
theorem zb0_ (V a b t : Nat) (h : b + t ≤ a) : V % 2 ^ a / 2 ^ b % 2 ^ t = V / 2 ^ b % 2 ^ t := by
 apply Nat.eq_of_testBit_eq
 intro i
 simp only [Nat.testBit_mod_two_pow, Nat.testBit_div_two_pow]
 by_cases hi : i < t
 · simp [hi, show i + b < a by omega]
 · simp [hi]
theorem zjp_ (V n f x : Nat) (hx : x < 2 ^ f) : V % 2 ^ n * 2 ^ f + x = (V * 2 ^ f + x) % 2 ^ (n + f) := by
 have h1 := Nat.div_add_mod V (2 ^ n)
 have h2 : V * 2 ^ f + x = 2 ^ (n + f) * (V / 2 ^ n) + (V % 2 ^ n * 2 ^ f + x) := by
  conv => lhs; rw [← h1]
  rw [Nat.pow_add, Nat.add_mul]
  simp only [Nat.mul_assoc, Nat.mul_comm, Nat.mul_left_comm, Nat.add_assoc]
 rw [h2, Nat.mul_add_mod]
 have h3 : V % 2 ^ n < 2 ^ n := Nat.mod_lt _ (Nat.two_pow_pos _)
 refine (Nat.mod_eq_of_lt ?_).symm
 rw [Nat.pow_add]
 have h4 : (V % 2 ^ n + 1) * 2 ^ f ≤ 2 ^ n * 2 ^ f := Nat.mul_le_mul_right _ h3
 rw [Nat.add_mul] at h4
 omega
theorem zjq_ (V x n f : Nat) (hx : x < 2 ^ f) : (V * 2 ^ f + x) / 2 ^ (n + f) = V / 2 ^ n := by
 rw [Nat.add_comm n f, Nat.pow_add, ← Nat.div_div_eq_div_mul, Nat.mul_comm V, Nat.mul_add_div (Nat.two_pow_pos _), Nat.div_eq_of_lt hx, Nat.add_zero]
theorem zeG_ (t m nn V : Nat) (h : t ≤ nn) : z1_ (2 ^ t) (m + 1) (V / 2 ^ (nn - t)) = z1_ (2 ^ t) m (V / 2 ^ nn) ++ [UInt8.ofNat (V / 2 ^ (nn - t) % 2 ^ t)] := by
 rw [z1_, Nat.div_div_eq_div_mul, ← Nat.pow_add, show nn - t + t = nn by omega]
def zd0_ (lo : Nat) (o : Option (List UInt8)) (e : Ending) (w' : World) : Prop :=
 match o with
 | none => e = .returned (.tuple #[.slice none 0 0, .int .i64 50])
 | some o => ∃ ad c, e = .returned (.tuple #[.slice ad o.length c, .int .i64 0]) ∧ x1_ lo (.slice ad o.length c) o w'
theorem zcf_ {lo : Nat} {o : Option (List UInt8)} {w' : World} (h : o = none) : zd0_ lo o (.returned (.tuple #[.slice none 0 0, .int .i64 50])) w' := by
 subst h; rfl
theorem zb1_ {lo : Nat} {o : Option (List UInt8)} {p : List UInt8} {w' : World} {ad : Option Addr} {m c : Nat} (h : o = some p) (hm : x1_ lo (.slice ad m c) p w') : zd0_ lo o (.returned (.tuple #[.slice ad m c, .int .i64 0])) w' := by
 subst h
 obtain rfl : m = p.length := zbS_ hm
 exact ⟨ad, c, rfl, hm⟩
theorem zoQ_ (l : List UInt8) (bv : Value) (w : World) (hin : x8_ bv l w) (hll : l.length ≤ 100000000)  :
  Calls Tryz.prog 88 #[bv, .int .i64 8, .int .i64 5, .bool true] w fun e w' =>
   zd0_ w.heap.size (w7_ 8 5 true l) e w' ∧ Below w.heap.size w w' := by
 obtain ⟨ad, cc, rfl, hby⟩ : ∃ ad cc, bv = .slice ad l.length cc ∧ (l ≠ [] → ∃ G o, ad = some ⟨G, o, none⟩ ∧ zbs_ G o l w) := by
  obtain ⟨G, o, c, h1, h2, h3⟩ := hin
  rcases h1 with ⟨h1, ad, cc, h⟩ | ⟨h1, h⟩
  · exact ⟨ad, cc, by rw [h, ← h1], fun h => absurd (List.eq_nil_of_length_eq_zero h1.symm) h⟩
  · exact ⟨some ⟨G, o, none⟩, c, by simpa using h, fun hl => ⟨G, o, rfl, h3 hl⟩⟩
 have HBY := Lib.hid hby
 clear hin hby
 go_enter Tryz.func88, Tryz.ntmps88
 go_wp2
 go_loopw [10, 11, 12, 14, 31] (fun ov hv nv _ iv wr => ∃ k : Nat, k ≤ l.length ∧ iv = .int .i64 k ∧ hv = .int .i64 (y3_ 256 (l.take k) % 2 ^ (8 * k % 5) : Nat) ∧ nv = .int .i64 ((8 * k % 5 : Nat) : Int) ∧ Hid (∀ x ∈ l.take k, x.toNat < 256) ∧ Hid (x1_ w.heap.size ov (z1_ 32 (8 * k / 5) (y3_ 256 (l.take k) / 2 ^ (8 * k % 5))) wr) ∧ Hid (GL [] w wr)) (fun _ _ _ _ iv _ => l.length - (intOf iv).toNat)
 case atStart => exact ⟨0, by omega, rfl, rfl, rfl, Lib.hid si_, Lib.hid (zbN_ _ _), Lib.hid (y1_ _ _)⟩
 case round =>
  obtain ⟨k, hk, rfl, rfl, rfl, hxr, hor, hgr⟩ := hrel
  by_cases hlt : k < l.length
  · obtain ⟨G, o, rfl, hbw⟩ := HBY.out (fun e => by subst e; simp at hlt)
    have ck := (zbf_ hbw hgr.out si_).2 k hlt
    have hk1 : (k : Int) < l.length := by omega
    have hx8 := (l.getD k 0).toNat_lt
    have hvt : y3_ 256 (l.take (k + 1)) = y3_ 256 (l.take k) * 2 ^ 8 + (l.getD k 0).toNat := zeF_ 256 l k hlt
    have HXK : Hid (l.take (k + 1) = l.take k ++ [l.getD k 0]) := Lib.hid (by rw [List.take_add_one, List.getElem?_eq_getElem hlt, Option.toList_some, List.getD_eq_getElem?_getD, List.getElem?_eq_getElem hlt]; rfl)
    obtain ⟨va, vm, vc, rfl⟩ := za4_ hor.out
    generalize hxg : (l.getD k 0).toNat = x at *
    have hx32 : x < 256 := hx8
    have hxz : (x : Int) / 256 = 0 := by omega
    generalize hVg : y3_ 256 (l.take k) = V at *
    have hNlt : 8 * k % 5 < 5 := Nat.mod_lt _ om_
    have hHlt : V % 2 ^ (8 * k % 5) < 2 ^ (8 * k % 5) := Nat.mod_lt _ (Nat.two_pow_pos _)
    have hpw : 2 ^ (8 * k % 5) ≤ 2 ^ 5 := Nat.pow_le_pow_right om_ om_
    have hor1 : bits .or .i64 (((V % 2 ^ (8 * k % 5) : Nat) : Int) * 256) (x : Int) = (((V * 2 ^ 8 + x) % 2 ^ (8 * k % 5 + 8) : Nat) : Int) := by
     rw [← zjp_ V _ 8 x om_, ← zfC_ _ x 8 om_, ← zfB_ _ _ om_ om_]
     rfl
    have hHN : Hid ((V * 2 ^ 8 + x) / 2 ^ (8 * k % 5 + 8) = V / 2 ^ (8 * k % 5)) := Lib.hid (zjq_ V x _ 8 om_)
    generalize hVn : V * 2 ^ 8 + x = V2 at *
    generalize hhv : V2 % 2 ^ (8 * k % 5 + 8) = hv at *
    have hNg0 : 5 * (8 * k / 5) + 8 * k % 5 = 8 * k := Nat.div_add_mod _ _
    generalize hMg : 8 * k / 5 = m0 at *
    generalize hNg : 8 * k % 5 = N at *
    generalize hHg : V % 2 ^ N = H at *
    have hHb : H < 2 ^ 5 := by omega
    have hvlt : hv < 2 ^ (N + 8) := by rw [← hhv]; exact Nat.mod_lt _ (Nat.two_pow_pos _)
    have hvb : hv < 2 ^ 12 := Nat.lt_of_lt_of_le hvlt (Nat.pow_le_pow_right om_ om_)
    have HXG := Lib.hid hxg
    have HHV := Lib.hid hhv
    have HVT := Lib.hid hvt
    have HO1 : Hid (x1_ w.heap.size (.slice va vm vc) (z1_ 32 m0 (V2 / 2 ^ (N + 8))) wr) := Lib.hid (by rw [hHN.out]; exact hor.out)
    have HG1 := Lib.hid hgr.out
    clear hbw hHlt hpw hhv hvt hor hgr hVg hVn hHg hHN hvlt hxg
    go_wp2
    go_loopw [10, 12] (fun ov nv wr => ∃ m nn : Nat, 5 * m + nn = 8 * (k + 1) ∧ nn ≤ N + 8 ∧ nv = .int .i64 nn ∧ Hid (x1_ w.heap.size ov (z1_ 32 m (V2 / 2 ^ nn)) wr) ∧ Hid (GL [] w wr)) (fun _ nv _ => (intOf nv).toNat)
    case atStart => exact ⟨m0, N + 8, by omega, by omega, by first | rfl | (simp; done), HO1, HG1⟩
    case round =>
     obtain ⟨m, nn, hmn, hnn, rfl, hor, hgr⟩ := hrel
     obtain ⟨oa, om, oc, rfl⟩ := za4_ hor.out
     have hol : om = m := by have := zbS_ hor.out; rw [y9_] at this; exact this
     subst hol
     by_cases hge : 5 ≤ nn
     · have HST := Lib.hid (zeG_ 5 om nn V2 hge)
       have hml : om ≤ 1000000000 := by omega
       rcases (by omega : nn = 5 ∨ nn = 6 ∨ nn = 7 ∨ nn = 8 ∨ nn = 9 ∨ nn = 10 ∨ nn = 11 ∨ nn = 12) with rfl | rfl | rfl | rfl | rfl | rfl | rfl | rfl
       · have hy : hv / 2 ^ 0 % 2 ^ 5 = V2 / 2 ^ 0 % 2 ^ 5 := by rw [← HHV.out]; exact zb0_ V2 (N + 8) 0 5 om_
         have hX : bits .and .i64 (hv : Int) 31 = ((V2 / 2 ^ 0 % 2 ^ 5 : Nat) : Int) := by
          rw [← hy, ← zap_ (hv / 2 ^ 0) 5 om_ om_ 31 de_]; rw [Nat.pow_zero, Nat.div_one]
         have hylt : V2 / 2 ^ 0 % 2 ^ 5 < 32 := Nat.mod_lt _ om_
         have HST2 : Hid (z1_ 32 (om + 1) (V2 / 2 ^ 0) = z1_ 32 om (V2 / 2 ^ 5) ++ [UInt8.ofNat (V2 / 2 ^ 0 % 2 ^ 5)]) := HST
         generalize V2 / 2 ^ 0 % 2 ^ 5 = y at *
         have hyI : (y : Int) < 32 := by omega
         obtain ⟨g, cap, w4, hrun, hown4, hgr4, hat, hlt4⟩ := k7_ w.heap.size (.slice oa om oc) _ (UInt8.ofNat y) (y : Int) (by rw [UInt8.toNat_ofNat']; omega) wr _ (.inl rfl) hor.out (by rw [y9_]; omega) hgr.out.size
         rw [y9_] at hrun hown4
         have HRUN := Lib.hid hrun
         clear hrun
         have hwd : IntKind.i64.wrap 0 = 0 := by decide
         have hwe : IntKind.i64.wrap 32 = 32 := by decide
         have hwf : IntKind.i64.wrap 31 = 31 := by decide
         have hwy : IntKind.u8.wrap (y : Int) = y := by simp only [IntKind.wrap_u8]; omega
         go_wp2
         go_region_law (refine zbA_ _ (.tmp 55) (.tmp 66) 47 47 rfl _ _ (by simp [Act.eval, Act.put]) (by simp [Act.eval, Act.put]) HRUN.out ?_)
         go_wp2
         go_roundw
         case rel =>
          refine ⟨om + 1, 0, by omega, by omega, by first | rfl | (simp; done), Lib.hid ?_, Lib.hid (y7_ hgr4 hgr.out (fun r hr => ?_))⟩
          · rw [HST2.out]; exact hown4
          · exact .inr (v4_ hor.out r (by simpa using hr)).1
         case measure => first | (simp [intOf]; done) | (simp [intOf]; omega)
       · have hy : hv / 2 ^ 1 % 2 ^ 5 = V2 / 2 ^ 1 % 2 ^ 5 := by rw [← HHV.out]; exact zb0_ V2 (N + 8) 1 5 om_
         have hX : bits .and .i64 ((hv : Int) / 2) 31 = ((V2 / 2 ^ 1 % 2 ^ 5 : Nat) : Int) := by
          rw [show ((hv : Int) / 2) = ((hv / 2 ^ 1 : Nat) : Int) by omega]; rw [← hy, ← zap_ (hv / 2 ^ 1) 5 om_ om_ 31 de_]
         have hylt : V2 / 2 ^ 1 % 2 ^ 5 < 32 := Nat.mod_lt _ om_
         have HST2 : Hid (z1_ 32 (om + 1) (V2 / 2 ^ 1) = z1_ 32 om (V2 / 2 ^ 6) ++ [UInt8.ofNat (V2 / 2 ^ 1 % 2 ^ 5)]) := HST
         generalize V2 / 2 ^ 1 % 2 ^ 5 = y at *
         have hyI : (y : Int) < 32 := by omega
         obtain ⟨g, cap, w4, hrun, hown4, hgr4, hat, hlt4⟩ := k7_ w.heap.size (.slice oa om oc) _ (UInt8.ofNat y) (y : Int) (by rw [UInt8.toNat_ofNat']; omega) wr _ (.inl rfl) hor.out (by rw [y9_]; omega) hgr.out.size
         rw [y9_] at hrun hown4
         have HRUN := Lib.hid hrun
         clear hrun
         have hwd : IntKind.i64.wrap 1 = 1 := by decide
         have hwe : IntKind.i64.wrap 32 = 32 := by decide
         have hwf : IntKind.i64.wrap 31 = 31 := by decide
         have hwy : IntKind.u8.wrap (y : Int) = y := by simp only [IntKind.wrap_u8]; omega
         go_wp2
         go_region_law (refine zbA_ _ (.tmp 55) (.tmp 66) 47 47 rfl _ _ (by simp [Act.eval, Act.put]) (by simp [Act.eval, Act.put]) HRUN.out ?_)
         go_wp2
         go_roundw
         case rel =>
          refine ⟨om + 1, 1, by omega, by omega, by first | rfl | (simp; done), Lib.hid ?_, Lib.hid (y7_ hgr4 hgr.out (fun r hr => ?_))⟩
          · rw [HST2.out]; exact hown4
          · exact .inr (v4_ hor.out r (by simpa using hr)).1
         case measure => first | (simp [intOf]; done) | (simp [intOf]; omega)
       · have hy : hv / 2 ^ 2 % 2 ^ 5 = V2 / 2 ^ 2 % 2 ^ 5 := by rw [← HHV.out]; exact zb0_ V2 (N + 8) 2 5 om_
         have hX : bits .and .i64 ((hv : Int) / 4) 31 = ((V2 / 2 ^ 2 % 2 ^ 5 : Nat) : Int) := by
          rw [show ((hv : Int) / 4) = ((hv / 2 ^ 2 : Nat) : Int) by omega]; rw [← hy, ← zap_ (hv / 2 ^ 2) 5 om_ om_ 31 de_]
         have hylt : V2 / 2 ^ 2 % 2 ^ 5 < 32 := Nat.mod_lt _ om_
         have HST2 : Hid (z1_ 32 (om + 1) (V2 / 2 ^ 2) = z1_ 32 om (V2 / 2 ^ 7) ++ [UInt8.ofNat (V2 / 2 ^ 2 % 2 ^ 5)]) := HST
         generalize V2 / 2 ^ 2 % 2 ^ 5 = y at *
         have hyI : (y : Int) < 32 := by omega
         obtain ⟨g, cap, w4, hrun, hown4, hgr4, hat, hlt4⟩ := k7_ w.heap.size (.slice oa om oc) _ (UInt8.ofNat y) (y : Int) (by rw [UInt8.toNat_ofNat']; omega) wr _ (.inl rfl) hor.out (by rw [y9_]; omega) hgr.out.size
         rw [y9_] at hrun hown4
         have HRUN := Lib.hid hrun
         clear hrun
         have hwd : IntKind.i64.wrap 2 = 2 := by decide
         have hwe : IntKind.i64.wrap 32 = 32 := by decide
         have hwf : IntKind.i64.wrap 31 = 31 := by decide
         have hwy : IntKind.u8.wrap (y : Int) = y := by simp only [IntKind.wrap_u8]; omega
         go_wp2
         go_region_law (refine zbA_ _ (.tmp 55) (.tmp 66) 47 47 rfl _ _ (by simp [Act.eval, Act.put]) (by simp [Act.eval, Act.put]) HRUN.out ?_)
         go_wp2
         go_roundw
         case rel =>
          refine ⟨om + 1, 2, by omega, by omega, by first | rfl | (simp; done), Lib.hid ?_, Lib.hid (y7_ hgr4 hgr.out (fun r hr => ?_))⟩
          · rw [HST2.out]; exact hown4
          · exact .inr (v4_ hor.out r (by simpa using hr)).1
         case measure => first | (simp [intOf]; done) | (simp [intOf]; omega)
       · have hy : hv / 2 ^ 3 % 2 ^ 5 = V2 / 2 ^ 3 % 2 ^ 5 := by rw [← HHV.out]; exact zb0_ V2 (N + 8) 3 5 om_
         have hX : bits .and .i64 ((hv : Int) / 8) 31 = ((V2 / 2 ^ 3 % 2 ^ 5 : Nat) : Int) := by
          rw [show ((hv : Int) / 8) = ((hv / 2 ^ 3 : Nat) : Int) by omega]; rw [← hy, ← zap_ (hv / 2 ^ 3) 5 om_ om_ 31 de_]
         have hylt : V2 / 2 ^ 3 % 2 ^ 5 < 32 := Nat.mod_lt _ om_
         have HST2 : Hid (z1_ 32 (om + 1) (V2 / 2 ^ 3) = z1_ 32 om (V2 / 2 ^ 8) ++ [UInt8.ofNat (V2 / 2 ^ 3 % 2 ^ 5)]) := HST
         generalize V2 / 2 ^ 3 % 2 ^ 5 = y at *
         have hyI : (y : Int) < 32 := by omega
         obtain ⟨g, cap, w4, hrun, hown4, hgr4, hat, hlt4⟩ := k7_ w.heap.size (.slice oa om oc) _ (UInt8.ofNat y) (y : Int) (by rw [UInt8.toNat_ofNat']; omega) wr _ (.inl rfl) hor.out (by rw [y9_]; omega) hgr.out.size
         rw [y9_] at hrun hown4
         have HRUN := Lib.hid hrun
         clear hrun
         have hwd : IntKind.i64.wrap 3 = 3 := by decide
         have hwe : IntKind.i64.wrap 32 = 32 := by decide
         have hwf : IntKind.i64.wrap 31 = 31 := by decide
         have hwy : IntKind.u8.wrap (y : Int) = y := by simp only [IntKind.wrap_u8]; omega
         go_wp2
         go_region_law (refine zbA_ _ (.tmp 55) (.tmp 66) 47 47 rfl _ _ (by simp [Act.eval, Act.put]) (by simp [Act.eval, Act.put]) HRUN.out ?_)
         go_wp2
         go_roundw
         case rel =>
          refine ⟨om + 1, 3, by omega, by omega, by first | rfl | (simp; done), Lib.hid ?_, Lib.hid (y7_ hgr4 hgr.out (fun r hr => ?_))⟩
          · rw [HST2.out]; exact hown4
          · exact .inr (v4_ hor.out r (by simpa using hr)).1
         case measure => first | (simp [intOf]; done) | (simp [intOf]; omega)
       · have hy : hv / 2 ^ 4 % 2 ^ 5 = V2 / 2 ^ 4 % 2 ^ 5 := by rw [← HHV.out]; exact zb0_ V2 (N + 8) 4 5 om_
         have hX : bits .and .i64 ((hv : Int) / 16) 31 = ((V2 / 2 ^ 4 % 2 ^ 5 : Nat) : Int) := by
          rw [show ((hv : Int) / 16) = ((hv / 2 ^ 4 : Nat) : Int) by omega]; rw [← hy, ← zap_ (hv / 2 ^ 4) 5 om_ om_ 31 de_]
         have hylt : V2 / 2 ^ 4 % 2 ^ 5 < 32 := Nat.mod_lt _ om_
         have HST2 : Hid (z1_ 32 (om + 1) (V2 / 2 ^ 4) = z1_ 32 om (V2 / 2 ^ 9) ++ [UInt8.ofNat (V2 / 2 ^ 4 % 2 ^ 5)]) := HST
         generalize V2 / 2 ^ 4 % 2 ^ 5 = y at *
         have hyI : (y : Int) < 32 := by omega
         obtain ⟨g, cap, w4, hrun, hown4, hgr4, hat, hlt4⟩ := k7_ w.heap.size (.slice oa om oc) _ (UInt8.ofNat y) (y : Int) (by rw [UInt8.toNat_ofNat']; omega) wr _ (.inl rfl) hor.out (by rw [y9_]; omega) hgr.out.size
         rw [y9_] at hrun hown4
         have HRUN := Lib.hid hrun
         clear hrun
         have hwd : IntKind.i64.wrap 4 = 4 := by decide
         have hwe : IntKind.i64.wrap 32 = 32 := by decide
         have hwf : IntKind.i64.wrap 31 = 31 := by decide
         have hwy : IntKind.u8.wrap (y : Int) = y := by simp only [IntKind.wrap_u8]; omega
         go_wp2
         go_region_law (refine zbA_ _ (.tmp 55) (.tmp 66) 47 47 rfl _ _ (by simp [Act.eval, Act.put]) (by simp [Act.eval, Act.put]) HRUN.out ?_)
         go_wp2
         go_roundw
         case rel =>
          refine ⟨om + 1, 4, by omega, by omega, by first | rfl | (simp; done), Lib.hid ?_, Lib.hid (y7_ hgr4 hgr.out (fun r hr => ?_))⟩
          · rw [HST2.out]; exact hown4
          · exact .inr (v4_ hor.out r (by simpa using hr)).1
         case measure => first | (simp [intOf]; done) | (simp [intOf]; omega)
       · have hy : hv / 2 ^ 5 % 2 ^ 5 = V2 / 2 ^ 5 % 2 ^ 5 := by rw [← HHV.out]; exact zb0_ V2 (N + 8) 5 5 om_
         have hX : bits .and .i64 ((hv : Int) / 32) 31 = ((V2 / 2 ^ 5 % 2 ^ 5 : Nat) : Int) := by
          rw [show ((hv : Int) / 32) = ((hv / 2 ^ 5 : Nat) : Int) by omega]; rw [← hy, ← zap_ (hv / 2 ^ 5) 5 om_ om_ 31 de_]
         have hylt : V2 / 2 ^ 5 % 2 ^ 5 < 32 := Nat.mod_lt _ om_
         have HST2 : Hid (z1_ 32 (om + 1) (V2 / 2 ^ 5) = z1_ 32 om (V2 / 2 ^ 10) ++ [UInt8.ofNat (V2 / 2 ^ 5 % 2 ^ 5)]) := HST
         generalize V2 / 2 ^ 5 % 2 ^ 5 = y at *
         have hyI : (y : Int) < 32 := by omega
         obtain ⟨g, cap, w4, hrun, hown4, hgr4, hat, hlt4⟩ := k7_ w.heap.size (.slice oa om oc) _ (UInt8.ofNat y) (y : Int) (by rw [UInt8.toNat_ofNat']; omega) wr _ (.inl rfl) hor.out (by rw [y9_]; omega) hgr.out.size
         rw [y9_] at hrun hown4
         have HRUN := Lib.hid hrun
         clear hrun
         have hwd : IntKind.i64.wrap 5 = 5 := by decide
         have hwe : IntKind.i64.wrap 32 = 32 := by decide
         have hwf : IntKind.i64.wrap 31 = 31 := by decide
         have hwy : IntKind.u8.wrap (y : Int) = y := by simp only [IntKind.wrap_u8]; omega
         go_wp2
         go_region_law (refine zbA_ _ (.tmp 55) (.tmp 66) 47 47 rfl _ _ (by simp [Act.eval, Act.put]) (by simp [Act.eval, Act.put]) HRUN.out ?_)
         go_wp2
         go_roundw
         case rel =>
          refine ⟨om + 1, 5, by omega, by omega, by first | rfl | (simp; done), Lib.hid ?_, Lib.hid (y7_ hgr4 hgr.out (fun r hr => ?_))⟩
          · rw [HST2.out]; exact hown4
          · exact .inr (v4_ hor.out r (by simpa using hr)).1
         case measure => first | (simp [intOf]; done) | (simp [intOf]; omega)
       · have hy : hv / 2 ^ 6 % 2 ^ 5 = V2 / 2 ^ 6 % 2 ^ 5 := by rw [← HHV.out]; exact zb0_ V2 (N + 8) 6 5 om_
         have hX : bits .and .i64 ((hv : Int) / 64) 31 = ((V2 / 2 ^ 6 % 2 ^ 5 : Nat) : Int) := by
          rw [show ((hv : Int) / 64) = ((hv / 2 ^ 6 : Nat) : Int) by omega]; rw [← hy, ← zap_ (hv / 2 ^ 6) 5 om_ om_ 31 de_]
         have hylt : V2 / 2 ^ 6 % 2 ^ 5 < 32 := Nat.mod_lt _ om_
         have HST2 : Hid (z1_ 32 (om + 1) (V2 / 2 ^ 6) = z1_ 32 om (V2 / 2 ^ 11) ++ [UInt8.ofNat (V2 / 2 ^ 6 % 2 ^ 5)]) := HST
         generalize V2 / 2 ^ 6 % 2 ^ 5 = y at *
         have hyI : (y : Int) < 32 := by omega
         obtain ⟨g, cap, w4, hrun, hown4, hgr4, hat, hlt4⟩ := k7_ w.heap.size (.slice oa om oc) _ (UInt8.ofNat y) (y : Int) (by rw [UInt8.toNat_ofNat']; omega) wr _ (.inl rfl) hor.out (by rw [y9_]; omega) hgr.out.size
         rw [y9_] at hrun hown4
         have HRUN := Lib.hid hrun
         clear hrun
         have hwd : IntKind.i64.wrap 6 = 6 := by decide
         have hwe : IntKind.i64.wrap 32 = 32 := by decide
         have hwf : IntKind.i64.wrap 31 = 31 := by decide
         have hwy : IntKind.u8.wrap (y : Int) = y := by simp only [IntKind.wrap_u8]; omega
         go_wp2
         go_region_law (refine zbA_ _ (.tmp 55) (.tmp 66) 47 47 rfl _ _ (by simp [Act.eval, Act.put]) (by simp [Act.eval, Act.put]) HRUN.out ?_)
         go_wp2
         go_roundw
         case rel =>
          refine ⟨om + 1, 6, by omega, by omega, by first | rfl | (simp; done), Lib.hid ?_, Lib.hid (y7_ hgr4 hgr.out (fun r hr => ?_))⟩
          · rw [HST2.out]; exact hown4
          · exact .inr (v4_ hor.out r (by simpa using hr)).1
         case measure => first | (simp [intOf]; done) | (simp [intOf]; omega)
       · have hy : hv / 2 ^ 7 % 2 ^ 5 = V2 / 2 ^ 7 % 2 ^ 5 := by rw [← HHV.out]; exact zb0_ V2 (N + 8) 7 5 om_
         have hX : bits .and .i64 ((hv : Int) / 128) 31 = ((V2 / 2 ^ 7 % 2 ^ 5 : Nat) : Int) := by
          rw [show ((hv : Int) / 128) = ((hv / 2 ^ 7 : Nat) : Int) by omega]; rw [← hy, ← zap_ (hv / 2 ^ 7) 5 om_ om_ 31 de_]
         have hylt : V2 / 2 ^ 7 % 2 ^ 5 < 32 := Nat.mod_lt _ om_
         have HST2 : Hid (z1_ 32 (om + 1) (V2 / 2 ^ 7) = z1_ 32 om (V2 / 2 ^ 12) ++ [UInt8.ofNat (V2 / 2 ^ 7 % 2 ^ 5)]) := HST
         generalize V2 / 2 ^ 7 % 2 ^ 5 = y at *
         have hyI : (y : Int) < 32 := by omega
         obtain ⟨g, cap, w4, hrun, hown4, hgr4, hat, hlt4⟩ := k7_ w.heap.size (.slice oa om oc) _ (UInt8.ofNat y) (y : Int) (by rw [UInt8.toNat_ofNat']; omega) wr _ (.inl rfl) hor.out (by rw [y9_]; omega) hgr.out.size
         rw [y9_] at hrun hown4
         have HRUN := Lib.hid hrun
         clear hrun
         have hwd : IntKind.i64.wrap 7 = 7 := by decide
         have hwe : IntKind.i64.wrap 32 = 32 := by decide
         have hwf : IntKind.i64.wrap 31 = 31 := by decide
         have hwy : IntKind.u8.wrap (y : Int) = y := by simp only [IntKind.wrap_u8]; omega
         go_wp2
         go_region_law (refine zbA_ _ (.tmp 55) (.tmp 66) 47 47 rfl _ _ (by simp [Act.eval, Act.put]) (by simp [Act.eval, Act.put]) HRUN.out ?_)
         go_wp2
         go_roundw
         case rel =>
          refine ⟨om + 1, 7, by omega, by omega, by first | rfl | (simp; done), Lib.hid ?_, Lib.hid (y7_ hgr4 hgr.out (fun r hr => ?_))⟩
          · rw [HST2.out]; exact hown4
          · exact .inr (v4_ hor.out r (by simpa using hr)).1
         case measure => first | (simp [intOf]; done) | (simp [intOf]; omega)
     · have hm1 : om = 8 * (k + 1) / 5 := by omega
       have hn1 : nn = 8 * (k + 1) % 5 := by omega
       have HM1 := Lib.hid hm1
       have HN1 := Lib.hid hn1
       clear hm1 hn1
       rcases (by omega : nn = 0 ∨ nn = 1 ∨ nn = 2 ∨ nn = 3 ∨ nn = 4) with rfl | rfl | rfl | rfl | rfl
       · have hy : hv % 2 ^ 0 = V2 % 2 ^ 0 := by rw [← HHV.out]; exact Nat.mod_mod_of_dvd _ (Nat.pow_dvd_pow 2 om_)
         have hX : bits .and .i64 (hv : Int) 0 = ((V2 % 2 ^ 0 : Nat) : Int) := by rw [← hy]; exact zap_ hv 0 om_ om_ _ de_
         go_wp2
         go_roundw
         case rel =>
          refine ⟨k + 1, by omega, by go_num, ?_, ?_, ?_, ?_, hgr⟩
          · rw [HVT.out, ← HN1.out] <;> first | rfl | (congr 1; omega) | (simp; done)
          · rw [← HN1.out] <;> first | rfl | (congr 1; omega) | (simp; done)
          · exact Lib.hid (fun z hz => by
             rw [HXK.out] at hz
             rcases List.mem_append.1 hz with h | h
             · exact hxr.out z h
             · rw [List.mem_singleton.1 h, HXG.out]; exact hx32)
          · rw [HVT.out, ← HN1.out, ← HM1.out]; exact hor
         case measure => first | (simp [intOf]; done) | (simp [intOf]; omega)
       · have hy : hv % 2 ^ 1 = V2 % 2 ^ 1 := by rw [← HHV.out]; exact Nat.mod_mod_of_dvd _ (Nat.pow_dvd_pow 2 om_)
         have hX : bits .and .i64 (hv : Int) 1 = ((V2 % 2 ^ 1 : Nat) : Int) := by rw [← hy]; exact zap_ hv 1 om_ om_ _ de_
         go_wp2
         go_roundw
         case rel =>
          refine ⟨k + 1, by omega, by go_num, ?_, ?_, ?_, ?_, hgr⟩
          · rw [HVT.out, ← HN1.out] <;> first | rfl | (congr 1; omega) | (simp; done)
          · rw [← HN1.out] <;> first | rfl | (congr 1; omega) | (simp; done)
          · exact Lib.hid (fun z hz => by
             rw [HXK.out] at hz
             rcases List.mem_append.1 hz with h | h
             · exact hxr.out z h
             · rw [List.mem_singleton.1 h, HXG.out]; exact hx32)
          · rw [HVT.out, ← HN1.out, ← HM1.out]; exact hor
         case measure => first | (simp [intOf]; done) | (simp [intOf]; omega)
       · have hy : hv % 2 ^ 2 = V2 % 2 ^ 2 := by rw [← HHV.out]; exact Nat.mod_mod_of_dvd _ (Nat.pow_dvd_pow 2 om_)
         have hX : bits .and .i64 (hv : Int) 3 = ((V2 % 2 ^ 2 : Nat) : Int) := by rw [← hy]; exact zap_ hv 2 om_ om_ _ de_
         go_wp2
         go_roundw
         case rel =>
          refine ⟨k + 1, by omega, by go_num, ?_, ?_, ?_, ?_, hgr⟩
          · rw [HVT.out, ← HN1.out] <;> first | rfl | (congr 1; omega) | (simp; done)
          · rw [← HN1.out] <;> first | rfl | (congr 1; omega) | (simp; done)
          · exact Lib.hid (fun z hz => by
             rw [HXK.out] at hz
             rcases List.mem_append.1 hz with h | h
             · exact hxr.out z h
             · rw [List.mem_singleton.1 h, HXG.out]; exact hx32)
          · rw [HVT.out, ← HN1.out, ← HM1.out]; exact hor
         case measure => first | (simp [intOf]; done) | (simp [intOf]; omega)
       · have hy : hv % 2 ^ 3 = V2 % 2 ^ 3 := by rw [← HHV.out]; exact Nat.mod_mod_of_dvd _ (Nat.pow_dvd_pow 2 om_)
         have hX : bits .and .i64 (hv : Int) 7 = ((V2 % 2 ^ 3 : Nat) : Int) := by rw [← hy]; exact zap_ hv 3 om_ om_ _ de_
         go_wp2
         go_roundw
         case rel =>
          refine ⟨k + 1, by omega, by go_num, ?_, ?_, ?_, ?_, hgr⟩
          · rw [HVT.out, ← HN1.out] <;> first | rfl | (congr 1; omega) | (simp; done)
          · rw [← HN1.out] <;> first | rfl | (congr 1; omega) | (simp; done)
          · exact Lib.hid (fun z hz => by
             rw [HXK.out] at hz
             rcases List.mem_append.1 hz with h | h
             · exact hxr.out z h
             · rw [List.mem_singleton.1 h, HXG.out]; exact hx32)
          · rw [HVT.out, ← HN1.out, ← HM1.out]; exact hor
         case measure => first | (simp [intOf]; done) | (simp [intOf]; omega)
       · have hy : hv % 2 ^ 4 = V2 % 2 ^ 4 := by rw [← HHV.out]; exact Nat.mod_mod_of_dvd _ (Nat.pow_dvd_pow 2 om_)
         have hX : bits .and .i64 (hv : Int) 15 = ((V2 % 2 ^ 4 : Nat) : Int) := by rw [← hy]; exact zap_ hv 4 om_ om_ _ de_
         go_wp2
         go_roundw
         case rel =>
          refine ⟨k + 1, by omega, by go_num, ?_, ?_, ?_, ?_, hgr⟩
          · rw [HVT.out, ← HN1.out] <;> first | rfl | (congr 1; omega) | (simp; done)
          · rw [← HN1.out] <;> first | rfl | (congr 1; omega) | (simp; done)
          · exact Lib.hid (fun z hz => by
             rw [HXK.out] at hz
             rcases List.mem_append.1 hz with h | h
             · exact hxr.out z h
             · rw [List.mem_singleton.1 h, HXG.out]; exact hx32)
          · rw [HVT.out, ← HN1.out, ← HM1.out]; exact hor
         case measure => first | (simp [intOf]; done) | (simp [intOf]; omega)
  · obtain rfl : k = l.length := by omega
    rw [List.take_length] at *
    obtain ⟨oa, om, oc, rfl⟩ := za4_ hor.out
    have hol : om = 8 * l.length / 5 := by have := zbS_ hor.out; rw [y9_] at this; exact this
    have HBP : Hid (w7_ 8 5 true l = if 8 * l.length % 5 = 0 then some (z1_ 32 (8 * l.length / 5) (y3_ 256 l)) else some (z1_ 32 (8 * l.length / 5 + 1) (y3_ 256 l * 2 ^ (5 - 8 * l.length % 5)))) := Lib.hid (by unfold w7_; rw [if_neg (by rw [zcS_ hxr.out]; simp), if_pos rfl])
    have hNlt : 8 * l.length % 5 < 5 := Nat.mod_lt _ om_
    have hMlt : 8 * l.length / 5 ≤ 900000000 := by omega
    generalize 8 * l.length / 5 = M at *
    generalize 8 * l.length % 5 = N at *
    generalize y3_ 256 l = V at *
    subst hol
    clear hk hlt hxr
    rcases (by omega : N = 0 ∨ N = 1 ∨ N = 2 ∨ N = 3 ∨ N = 4) with rfl | rfl | rfl | rfl | rfl
    · have HO : Hid (x1_ w.heap.size (.slice oa om oc) (z1_ 32 om V) wr) := Lib.hid (by have := hor.out; rwa [Nat.pow_zero, Nat.div_one] at this)
      have HN0 : Hid (w7_ 8 5 true l = some (z1_ 32 om V)) := Lib.hid (by rw [HBP.out]; rfl)
      have HB0 := Lib.hid (y0_ hgr.out)
      rw [Nat.pow_zero, Nat.mod_one]
      clear hor hgr HBP
      go_wp2
      exact bodyPost_ret (v := .tuple #[.slice oa om oc, .int .i64 0]) (by simp [results, Tryz.results88, go_sem]) rfl ⟨zb1_ HN0.out HO.out, HB0.out⟩
    · have hh : V % 2 ^ 1 < 2 := Nat.mod_lt _ om_
      have hy1 : V * 2 ^ 4 / 32 = V / 2 ^ 1 := by omega
      have hy2 : V * 2 ^ 4 % 32 = V % 2 ^ 1 * 2 ^ 4 := by omega
      have HN0 : Hid (w7_ 8 5 true l = some (z1_ 32 om (V / 2 ^ 1) ++ [UInt8.ofNat (V % 2 ^ 1 * 2 ^ 4)])) := Lib.hid (by rw [HBP.out, if_neg om_, z1_, show 5 - 1 = 4 by omega, hy1, hy2])
      clear hy1 hy2 HBP
      generalize V % 2 ^ 1 = h at *
      obtain ⟨g, cap, w4, hrun, hown4, hgr4, hat, hlt4⟩ := k7_ w.heap.size (.slice oa om oc) _ (UInt8.ofNat (h * 2 ^ 4)) ((h : Int) * 16) (by rw [UInt8.toNat_ofNat']; omega) wr _ (.inr rfl) hor.out (by rw [y9_]; omega) hgr.out.size
      rw [y9_] at hrun hown4
      have HRUN := Lib.hid hrun
      have HOWN := Lib.hid hown4
      have HB0 : Hid (Below w.heap.size w w4) := Lib.hid (y0_ (y7_ hgr4 hgr.out (fun r hr => .inr (v4_ hor.out r (by simpa using hr)).1)))
      clear hrun hown4 hgr4 hat hgr
      have hwd : IntKind.i64.wrap 4 = 4 := by decide
      have hwy : IntKind.u8.wrap ((h : Int) * 16) = (h : Int) * 16 := by simp only [IntKind.wrap_u8]; omega
      go_wp2_with (at_builtin; refine w8_ _ rfl (.tmp 80) (.tmp 87) 47 47 rfl _ _ (by simp [Act.eval, Act.put]) (by simp [Act.eval, Act.put]) HRUN.out ?_)
      exact bodyPost_ret (v := .tuple #[.slice (some ⟨g, 0, none⟩) (om + 1) cap, .int .i64 0]) (by simp [results, Tryz.results88, go_sem]) rfl ⟨zb1_ HN0.out HOWN.out, HB0.out⟩
    · have hh : V % 2 ^ 2 < 4 := Nat.mod_lt _ om_
      have hy1 : V * 2 ^ 3 / 32 = V / 2 ^ 2 := by omega
      have hy2 : V * 2 ^ 3 % 32 = V % 2 ^ 2 * 2 ^ 3 := by omega
      have HN0 : Hid (w7_ 8 5 true l = some (z1_ 32 om (V / 2 ^ 2) ++ [UInt8.ofNat (V % 2 ^ 2 * 2 ^ 3)])) := Lib.hid (by rw [HBP.out, if_neg om_, z1_, show 5 - 2 = 3 by omega, hy1, hy2])
      clear hy1 hy2 HBP
      generalize V % 2 ^ 2 = h at *
      obtain ⟨g, cap, w4, hrun, hown4, hgr4, hat, hlt4⟩ := k7_ w.heap.size (.slice oa om oc) _ (UInt8.ofNat (h * 2 ^ 3)) ((h : Int) * 8) (by rw [UInt8.toNat_ofNat']; omega) wr _ (.inr rfl) hor.out (by rw [y9_]; omega) hgr.out.size
      rw [y9_] at hrun hown4
      have HRUN := Lib.hid hrun
      have HOWN := Lib.hid hown4
      have HB0 : Hid (Below w.heap.size w w4) := Lib.hid (y0_ (y7_ hgr4 hgr.out (fun r hr => .inr (v4_ hor.out r (by simpa using hr)).1)))
      clear hrun hown4 hgr4 hat hgr
      have hwd : IntKind.i64.wrap 3 = 3 := by decide
      have hwy : IntKind.u8.wrap ((h : Int) * 8) = (h : Int) * 8 := by simp only [IntKind.wrap_u8]; omega
      go_wp2_with (at_builtin; refine w8_ _ rfl (.tmp 80) (.tmp 87) 47 47 rfl _ _ (by simp [Act.eval, Act.put]) (by simp [Act.eval, Act.put]) HRUN.out ?_)
      exact bodyPost_ret (v := .tuple #[.slice (some ⟨g, 0, none⟩) (om + 1) cap, .int .i64 0]) (by simp [results, Tryz.results88, go_sem]) rfl ⟨zb1_ HN0.out HOWN.out, HB0.out⟩
    · have hh : V % 2 ^ 3 < 8 := Nat.mod_lt _ om_
      have hy1 : V * 2 ^ 2 / 32 = V / 2 ^ 3 := by omega
      have hy2 : V * 2 ^ 2 % 32 = V % 2 ^ 3 * 2 ^ 2 := by omega
      have HN0 : Hid (w7_ 8 5 true l = some (z1_ 32 om (V / 2 ^ 3) ++ [UInt8.ofNat (V % 2 ^ 3 * 2 ^ 2)])) := Lib.hid (by rw [HBP.out, if_neg om_, z1_, show 5 - 3 = 2 by omega, hy1, hy2])
      clear hy1 hy2 HBP
      generalize V % 2 ^ 3 = h at *
      obtain ⟨g, cap, w4, hrun, hown4, hgr4, hat, hlt4⟩ := k7_ w.heap.size (.slice oa om oc) _ (UInt8.ofNat (h * 2 ^ 2)) ((h : Int) * 4) (by rw [UInt8.toNat_ofNat']; omega) wr _ (.inr rfl) hor.out (by rw [y9_]; omega) hgr.out.size
      rw [y9_] at hrun hown4
      have HRUN := Lib.hid hrun
      have HOWN := Lib.hid hown4
      have HB0 : Hid (Below w.heap.size w w4) := Lib.hid (y0_ (y7_ hgr4 hgr.out (fun r hr => .inr (v4_ hor.out r (by simpa using hr)).1)))
      clear hrun hown4 hgr4 hat hgr
      have hwd : IntKind.i64.wrap 2 = 2 := by decide
      have hwy : IntKind.u8.wrap ((h : Int) * 4) = (h : Int) * 4 := by simp only [IntKind.wrap_u8]; omega
      go_wp2_with (at_builtin; refine w8_ _ rfl (.tmp 80) (.tmp 87) 47 47 rfl _ _ (by simp [Act.eval, Act.put]) (by simp [Act.eval, Act.put]) HRUN.out ?_)
      exact bodyPost_ret (v := .tuple #[.slice (some ⟨g, 0, none⟩) (om + 1) cap, .int .i64 0]) (by simp [results, Tryz.results88, go_sem]) rfl ⟨zb1_ HN0.out HOWN.out, HB0.out⟩
    · have hh : V % 2 ^ 4 < 16 := Nat.mod_lt _ om_
      have hy1 : V * 2 ^ 1 / 32 = V / 2 ^ 4 := by omega
      have hy2 : V * 2 ^ 1 % 32 = V % 2 ^ 4 * 2 ^ 1 := by omega
      have HN0 : Hid (w7_ 8 5 true l = some (z1_ 32 om (V / 2 ^ 4) ++ [UInt8.ofNat (V % 2 ^ 4 * 2 ^ 1)])) := Lib.hid (by rw [HBP.out, if_neg om_, z1_, show 5 - 4 = 1 by omega, hy1, hy2])
      clear hy1 hy2 HBP
      generalize V % 2 ^ 4 = h at *
      obtain ⟨g, cap, w4, hrun, hown4, hgr4, hat, hlt4⟩ := k7_ w.heap.size (.slice oa om oc) _ (UInt8.ofNat (h * 2 ^ 1)) ((h : Int) * 2) (by rw [UInt8.toNat_ofNat']; omega) wr _ (.inr rfl) hor.out (by rw [y9_]; omega) hgr.out.size
      rw [y9_] at hrun hown4
      have HRUN := Lib.hid hrun
      have HOWN := Lib.hid hown4
      have HB0 : Hid (Below w.heap.size w w4) := Lib.hid (y0_ (y7_ hgr4 hgr.out (fun r hr => .inr (v4_ hor.out r (by simpa using hr)).1)))
      clear hrun hown4 hgr4 hat hgr
      have hwd : IntKind.i64.wrap 1 = 1 := by decide
      have hwy : IntKind.u8.wrap ((h : Int) * 2) = (h : Int) * 2 := by simp only [IntKind.wrap_u8]; omega
      go_wp2_with (at_builtin; refine w8_ _ rfl (.tmp 80) (.tmp 87) 47 47 rfl _ _ (by simp [Act.eval, Act.put]) (by simp [Act.eval, Act.put]) HRUN.out ?_)
      exact bodyPost_ret (v := .tuple #[.slice (some ⟨g, 0, none⟩) (om + 1) cap, .int .i64 0]) (by simp [results, Tryz.results88, go_sem]) rfl ⟨zb1_ HN0.out HOWN.out, HB0.out⟩
end Go.Proofs.YtembdkodajichaaGreatDoor
