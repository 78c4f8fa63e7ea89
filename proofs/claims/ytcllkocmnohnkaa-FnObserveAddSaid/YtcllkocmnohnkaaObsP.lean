/- Plain laws of observations: the waves that the baselines see, grids and images. -/
import Derived.Test.YtcllkocmnohnkaaDirtyP
import Derived.Test.YtcllkocmnohnkaaBases
namespace Go.Proofs.Ytcllkocmnohnkaa
open Go.RowKit

/-- The cell of a vector. -/
def cellN (x y : Int) : Nat := (cellI x y).toNat
theorem cellN_lt (x y : Int) : cellN x y < 16 := by unfold cellN; have := cellI_bd x y; omega
theorem cellN_cast (x y : Int) : cellI x y = (cellN x y : Int) := by unfold cellN; have := cellI_bd x y; omega
theorem cellN_neg (x y : Int) : cellN (-x) (-y) = oppN (cellN x y) := by unfold cellN cellI oppN; omega
theorem ph_cell (x y : Int) (d : Nat) : (ph (cellN x y) d - (x * (d % 4 : Nat) + y * (d / 4 : Nat))) % 4 = 0 := by
  have h1 : cellN x y % 4 = (x % 4).toNat := by unfold cellN cellI; omega
  have h2 : cellN x y / 4 = (y % 4).toNat := by unfold cellN cellI; omega
  obtain ⟨a, ha⟩ : ∃ a : Nat, x % 4 = a := ⟨(x % 4).toNat, by omega⟩
  obtain ⟨b, hb⟩ : ∃ b : Nat, y % 4 = b := ⟨(y % 4).toNat, by omega⟩
  obtain ⟨p, hp⟩ : ∃ p, x = 4 * p + a := ⟨x / 4, by omega⟩
  obtain ⟨q, hq⟩ : ∃ q, y = 4 * q + b := ⟨y / 4, by omega⟩
  unfold ph
  rw [h1, h2, ha, hb, Int.toNat_natCast, Int.toNat_natCast, hp, hq]
  obtain ⟨u, hu⟩ : ∃ u, d % 4 = u := ⟨_, rfl⟩
  obtain ⟨v, hv⟩ : ∃ v, d / 4 = v := ⟨_, rfl⟩
  rw [hu, hv, Int.natCast_add, Int.natCast_mul, Int.natCast_mul, Int.add_mul, Int.add_mul, Int.mul_assoc, Int.mul_assoc]
  omega

/-- The vector of two antennas. -/
def vecX (ants : List (Int × Int)) (i j : Nat) : Int := (ants.getD j (0, 0)).1 - (ants.getD i (0, 0)).1
def vecY (ants : List (Int × Int)) (i j : Nat) : Int := (ants.getD j (0, 0)).2 - (ants.getD i (0, 0)).2
def vecC (ants : List (Int × Int)) (i j : Nat) : Nat := cellN (vecX ants i j) (vecY ants i j)
theorem vecC_lt (ants : List (Int × Int)) (i j : Nat) : vecC ants i j < 16 := cellN_lt _ _
theorem vecC_swap (ants : List (Int × Int)) (i j : Nat) : vecC ants j i = oppN (vecC ants i j) := by
  unfold vecC
  rw [← cellN_neg]
  unfold vecX vecY
  congr 1 <;> omega
/-- The transform of a sky. -/
def skyT (s : List Int) : List (Int × Int) := trf (reG s) 1
theorem skyT_len (s : List Int) : (skyT s).length = 16 := trf_len _ _
theorem skyT_get (s : List Int) (t : Nat) (h : t < 16) : (skyT s).getD t (0, 0) = (sum16 fun a => s.getD a 0 * wr t a, sum16 fun a => s.getD a 0 * wi t a) := by
  unfold skyT; rw [trf_get _ _ _ h, tr_real]
theorem skyT_opp (s : List Int) (t : Nat) (h : t < 16) : (skyT s).getD (oppN t) (0, 0) = (((skyT s).getD t (0, 0)).1, -((skyT s).getD t (0, 0)).2) := by
  rw [skyT_get _ _ (oppN_lt t), skyT_get _ _ h]
  dsimp only
  rw [← sum16_neg]
  congr 1
  · exact sum16_congr fun a ha => by rw [wr_opp t a h ha]
  · exact sum16_congr fun a ha => by rw [wi_opp t a h ha, Int.mul_neg]
/-- What the baselines see of a sky. -/
def obsL (ants : List (Int × Int)) (s : List Int) : List (Int × Int) := (pairsN ants.length).map fun p => (skyT s).getD (vecC ants p.1 p.2) (0, 0)
theorem obsL_len (ants : List (Int × Int)) (s : List Int) : (obsL ants s).length = (pairsN ants.length).length := by simp [obsL]
theorem obsL_get (ants : List (Int × Int)) (s : List Int) (k : Nat) (h : k < (pairsN ants.length).length) : (obsL ants s).getD k (0, 0) = (skyT s).getD (vecC ants ((pairsN ants.length).getD k (0, 0)).1 ((pairsN ants.length).getD k (0, 0)).2) (0, 0) := by
  unfold obsL
  rw [List.getD_eq_getElem?_getD, List.getElem?_map, List.getD_eq_getElem?_getD (l := pairsN _), List.getElem?_eq_getElem h]; rfl
/-- Skies added. -/
def addS (a b : List Int) (m : Int) : List Int := (List.range 16).map fun k => a.getD k 0 + m * b.getD k 0
theorem addS_len (a b : List Int) (m : Int) : (addS a b m).length = 16 := by simp [addS]
theorem addS_get (a b : List Int) (m : Int) (k : Nat) (h : k < 16) : (addS a b m).getD k 0 = a.getD k 0 + m * b.getD k 0 := by
  unfold addS; rw [List.getD_eq_getElem?_getD, List.getElem?_map, List.getElem?_range h]; rfl
theorem skyT_add (a b : List Int) (m : Int) (t : Nat) (h : t < 16) : (skyT (addS a b m)).getD t (0, 0) = (((skyT a).getD t (0, 0)).1 + m * ((skyT b).getD t (0, 0)).1, ((skyT a).getD t (0, 0)).2 + m * ((skyT b).getD t (0, 0)).2) := by
  rw [skyT_get _ _ h, skyT_get _ _ h, skyT_get _ _ h]
  dsimp only
  rw [← sum16_mul, ← sum16_mul, ← sum16_add, ← sum16_add]
  congr 1 <;> exact sum16_congr fun k hk => by rw [addS_get _ _ _ _ hk, Int.add_mul, Int.mul_assoc]
/-- A sky shifted by the cell d. -/
def shL (s : List Int) (d : Nat) : List Int := (List.range 16).map fun x => s.getD (subC x d) 0
theorem shL_len (s : List Int) (d : Nat) : (shL s d).length = 16 := by simp [shL]
theorem shL_get (s : List Int) (d x : Nat) (h : x < 16) : (shL s d).getD x 0 = s.getD (subC x d) 0 := by
  unfold shL; rw [List.getD_eq_getElem?_getD, List.getElem?_map, List.getElem?_range h]; rfl
theorem wr_add (t a b : Nat) (ht : t < 16) (ha : a < 16) (hb : b < 16) : wr t (addC a b) = wr t a * wr t b - wi t a * wi t b := by
  have e : unit (ph t (addC a b)) = unit (ph t a + ph t b) := unit_congr (by have := ph_add t ht a ha b hb; omega)
  unfold wr wi
  rw [e, (mul_unit _ _).1]
theorem wi_add (t a b : Nat) (ht : t < 16) (ha : a < 16) (hb : b < 16) : wi t (addC a b) = wr t a * wi t b + wi t a * wr t b := by
  have e : unit (ph t (addC a b)) = unit (ph t a + ph t b) := unit_congr (by have := ph_add t ht a ha b hb; omega)
  unfold wr wi
  rw [e, (mul_unit _ _).2]
theorem skyT_shift (s : List Int) (d t : Nat) (hd : d < 16) (ht : t < 16) : (skyT (shL s d)).getD t (0, 0) = turnAt ((skyT s).getD t (0, 0)) (ph t d) := by
  rw [skyT_get _ _ ht, skyT_get _ _ ht]
  have e1 : (sum16 fun a => (shL s d).getD a 0 * wr t a) = sum16 fun y => s.getD y 0 * wr t (addC y d) := by
    rw [← sum16_perm (fun a => subC a d) (perm_sub d hd) fun y => s.getD y 0 * wr t (addC y d)]
    exact sum16_congr fun a ha => by rw [shL_get _ _ _ ha, subC_add a ha d hd]
  have e2 : (sum16 fun a => (shL s d).getD a 0 * wi t a) = sum16 fun y => s.getD y 0 * wi t (addC y d) := by
    rw [← sum16_perm (fun a => subC a d) (perm_sub d hd) fun y => s.getD y 0 * wi t (addC y d)]
    exact sum16_congr fun a ha => by rw [shL_get _ _ _ ha, subC_add a ha d hd]
  rw [e1, e2]
  unfold turnAt
  dsimp only
  change _ = ((sum16 fun a => s.getD a 0 * wr t a) * wr t d - (sum16 fun a => s.getD a 0 * wi t a) * wi t d, (sum16 fun a => s.getD a 0 * wr t a) * wi t d + (sum16 fun a => s.getD a 0 * wi t a) * wr t d)
  rw [← sum16_mul', ← sum16_mul', ← sum16_mul', ← sum16_mul', ← sum16_sub, ← sum16_add]
  congr 1
  · exact sum16_congr fun y hy => by rw [wr_add t y d ht hy hd, Int.mul_sub, Int.mul_assoc, Int.mul_assoc]
  · exact sum16_congr fun y hy => by rw [wi_add t y d ht hy hd, Int.mul_add, Int.mul_assoc, Int.mul_assoc]
theorem tab_rr : ∀ t, t < 16 → ∀ u, u < 16 → sum16 (fun x => wr x u * wr t x) = (if u = t then 8 else 0) + if u = oppN t then 8 else 0 := by decide +kernel
theorem tab_ii : ∀ t, t < 16 → ∀ u, u < 16 → sum16 (fun x => wi x u * wi t x) = (if u = t then 8 else 0) - if u = oppN t then 8 else 0 := by decide +kernel
theorem tab_ri : ∀ t, t < 16 → ∀ u, u < 16 → sum16 (fun x => wr x u * wi t x) = 0 := by decide +kernel
theorem tab_ir : ∀ t, t < 16 → ∀ u, u < 16 → sum16 (fun x => wi x u * wr t x) = 0 := by decide +kernel
theorem sum16_pick (f : Nat → Int) (t : Nat) (h : t < 16) (c : Int) : sum16 (fun u => f u * if u = t then c else 0) = f t * c := by
  rw [sum16_one t h _ fun k _ hk => by rw [if_neg hk, Int.mul_zero], if_pos rfl]
/-- The image of a grid: the real parts of its back transform. -/
def imageL (g : List (Int × Int)) : List Int := (trf g (-1)).map (·.1)
theorem imageL_len (g : List (Int × Int)) : (imageL g).length = 16 := by unfold imageL; rw [List.length_map, trf_len]
theorem imageL_get (g : List (Int × Int)) (x : Nat) (h : x < 16) : (imageL g).getD x 0 = sum16 fun t => (g.getD t (0, 0)).1 * wr x t + (g.getD t (0, 0)).2 * wi x t := by
  unfold imageL; rw [fst_getD, trf_get _ _ _ h, tr_back]
theorem image_sum (g : List (Int × Int)) : skySum (imageL g) = 16 * (g.getD 0 (0, 0)).1 := by
  unfold skySum
  rw [sum16_congr fun x hx => imageL_get g x hx, sum16_comm]
  have e : ∀ t, t < 16 → (sum16 fun x => (g.getD t (0, 0)).1 * wr x t + (g.getD t (0, 0)).2 * wi x t) = (g.getD t (0, 0)).1 * if t = 0 then 16 else 0 := fun t ht => by
    rw [sum16_add, sum16_mul, sum16_mul, wr_sum t ht, wi_sum t ht]; omega
  rw [sum16_congr e, sum16_pick _ 0 (by omega)]
  omega
/-- The image of a grid of which opposite cells are conjugate has the grid as its transform, sixteenfold. -/
theorem image_back (g : List (Int × Int)) (hg : ∀ t, t < 16 → g.getD (oppN t) (0, 0) = ((g.getD t (0, 0)).1, -(g.getD t (0, 0)).2)) (t : Nat) (ht : t < 16) : (skyT (imageL g)).getD t (0, 0) = (16 * (g.getD t (0, 0)).1, 16 * (g.getD t (0, 0)).2) := by
  have g1 := congrArg Prod.fst (hg t ht)
  have g2 := congrArg Prod.snd (hg t ht)
  dsimp only at g1 g2
  rw [skyT_get _ _ ht]
  congr 1
  · have e : ∀ x, x < 16 → (imageL g).getD x 0 * wr t x = sum16 fun u => (g.getD u (0, 0)).1 * (wr x u * wr t x) + (g.getD u (0, 0)).2 * (wi x u * wr t x) := fun x hx => by
      rw [imageL_get g x hx, ← sum16_mul']
      exact sum16_congr fun u _ => by rw [Int.add_mul, Int.mul_assoc, Int.mul_assoc]
    rw [sum16_congr e, sum16_comm]
    have e2 : ∀ u, u < 16 → (sum16 fun x => (g.getD u (0, 0)).1 * (wr x u * wr t x) + (g.getD u (0, 0)).2 * (wi x u * wr t x)) = (g.getD u (0, 0)).1 * (if u = t then 8 else 0) + (g.getD u (0, 0)).1 * (if u = oppN t then 8 else 0) := fun u hu => by
      rw [sum16_add, sum16_mul, sum16_mul, tab_rr t ht u hu, tab_ir t ht u hu, Int.mul_add]; omega
    rw [sum16_congr e2, sum16_add, sum16_pick (fun u => (g.getD u (0, 0)).1) t ht, sum16_pick (fun u => (g.getD u (0, 0)).1) (oppN t) (oppN_lt t), g1]
    omega
  · have e : ∀ x, x < 16 → (imageL g).getD x 0 * wi t x = sum16 fun u => (g.getD u (0, 0)).1 * (wr x u * wi t x) + (g.getD u (0, 0)).2 * (wi x u * wi t x) := fun x hx => by
      rw [imageL_get g x hx, ← sum16_mul']
      exact sum16_congr fun u _ => by rw [Int.add_mul, Int.mul_assoc, Int.mul_assoc]
    rw [sum16_congr e, sum16_comm]
    have e2 : ∀ u, u < 16 → (sum16 fun x => (g.getD u (0, 0)).1 * (wr x u * wi t x) + (g.getD u (0, 0)).2 * (wi x u * wi t x)) = (g.getD u (0, 0)).2 * (if u = t then 8 else 0) - (g.getD u (0, 0)).2 * (if u = oppN t then 8 else 0) := fun u hu => by
      rw [sum16_add, sum16_mul, sum16_mul, tab_ri t ht u hu, tab_ii t ht u hu, Int.mul_sub]; omega
    rw [sum16_congr e2, sum16_sub, sum16_pick (fun u => (g.getD u (0, 0)).2) t ht, sum16_pick (fun u => (g.getD u (0, 0)).2) (oppN t) (oppN_lt t), g2]
    omega
theorem dirty_image (s : List Int) (c : List Bool) : dirtyL s c = imageL (maskG (skyT s) c) := rfl
/-- The transform of a beam. -/
theorem skyT_beam {c : List Bool} (hv : covV c = true) (t : Nat) (ht : t < 16) : (skyT (beamL c)).getD t (0, 0) = (if c.getD t false then 16 else 0, 0) := by
  obtain ⟨_, ho⟩ := covV_iff.1 hv
  have eb : ∀ x, x < 16 → (beamL c).getD x 0 = sum16 fun u => (if c.getD u false then 1 else 0) * wr x u := fun x hx => by
    rw [beam_wr _ _ hx]
    exact sum16_congr fun u _ => by split <;> simp
  rw [skyT_get _ _ ht]
  congr 1
  · have e : ∀ x, x < 16 → (beamL c).getD x 0 * wr t x = sum16 fun u => (if c.getD u false then (1 : Int) else 0) * (wr x u * wr t x) := fun x hx => by
      rw [eb x hx, ← sum16_mul']
      exact sum16_congr fun u _ => by rw [Int.mul_assoc]
    rw [sum16_congr e, sum16_comm]
    have e2 : ∀ u, u < 16 → (sum16 fun x => (if c.getD u false then (1 : Int) else 0) * (wr x u * wr t x)) = (if c.getD u false then (1 : Int) else 0) * (if u = t then 8 else 0) + (if c.getD u false then (1 : Int) else 0) * (if u = oppN t then 8 else 0) := fun u hu => by
      rw [sum16_mul, tab_rr t ht u hu, Int.mul_add]
    rw [sum16_congr e2, sum16_add, sum16_pick (fun u => if c.getD u false then (1 : Int) else 0) t ht, sum16_pick (fun u => if c.getD u false then (1 : Int) else 0) (oppN t) (oppN_lt t), ho t ht]
    split <;> omega
  · have e : ∀ x, x < 16 → (beamL c).getD x 0 * wi t x = sum16 fun u => (if c.getD u false then (1 : Int) else 0) * (wr x u * wi t x) := fun x hx => by
      rw [eb x hx, ← sum16_mul']
      exact sum16_congr fun u _ => by rw [Int.mul_assoc]
    rw [sum16_congr e, sum16_comm, sum16_congr (g := fun _ => 0) fun u hu => by rw [sum16_mul, tab_ri t ht u hu, Int.mul_zero], sum16_zero]
end Go.Proofs.Ytcllkocmnohnkaa
