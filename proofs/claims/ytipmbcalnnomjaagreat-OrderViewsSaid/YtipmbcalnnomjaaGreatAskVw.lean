import Derived.Test.YtipmbcalnnomjaaGreatNodeVw
import Derived.Deep.DeepCutAuto
import Derived.Test.YtipmbcalnnomjaaGreatSqVw
set_option linter.unusedVariables false
set_option linter.unusedSimpArgs false
set_option maxRecDepth 100000
namespace Go.Proofs.YtipmbcalnnomjaaGreat
open Go.RowKit
def AskTo (w0 : World) (d : Nat) (v : V) (n : Int) (kids : List Int) (q : Int) (w : World) (e : Ending) (w' : World) : Prop :=
 ∃ cs a cap, e = .returned (.tuple #[.agg (Value.int .i64 n :: (cs ++ [Value.slice a kids.length cap, Value.int .i64 q])).toArray, .int .i64 0, .int .i64 0]) ∧ Lies w0 (d + 1) v cs ∧ Pure w w' ∧ w'.ownsRow w.heap.size 3 1 (.slice a kids.length cap) kids.length (intsV kids)
abbrev zeroNd : List Value := [.int .i64 0, .int .i64 0, .int .i64 0, .string ⟨#[]⟩, .slice none 0 0, .slice none 0 0, .int .i64 0]
set_option maxHeartbeats 2000000 in
theorem ask_any (d : Nat) (l : List Ob) (oa : Option Addr) (oc : Nat) (root : Int) (rows : List (List Value)) (fb db : Nat) (n : Int) (w0 w : World) (hP0 : Pure w0 w) (hD : DocOk w0 d l oa rows root) (hF : FileAt w fb db oa l.length oc root)
 (kids : List Int) (q : Int) (hn : nodeO (obAt l n) = some (kids, q)) :
 Calls Tryz.prog 77 #[.pointer (some ⟨fb, 0, none⟩), .int .i64 n] w (AskTo w0 d (obAt l n).v n kids q w) := by
 have HG := qh (fun W (hP : Pure w W) => fget_any d l oa oc root rows fb db n w0 W (hP0.pure hP) hD.ok (by have := hD.len; omega) (hF.ext hP id id))
 obtain ⟨o, ho⟩ : ∃ z, z = obAt l n := ⟨_, rfl⟩
 have HN := qh (fun cs (hL : Lies w0 (d + 1) o.v cs) W (hP : Pure w W) => nodeof_any d n o cs w0 W (hP0.pure hP) hL (by rw [ho]; exact hD.at_size n))
 rw [← ho] at HG hn ⊢
 have Hn := qh hn
 obtain ⟨wz, hwz⟩ : ∃ z, z = w.alloc (.cells zeroNd.toArray 101) := ⟨_, rfl⟩
 obtain ⟨tb, htb⟩ : ∃ z, z = w.heap.size := ⟨_, rfl⟩
 have HBz : Hid (BlockIs wz tb zeroNd 101) := qh (by rw [hwz, htb]; exact BlockIs.new w _ _)
 have HPz : Hid (Pure w wz) := qh (by rw [hwz]; exact ext_alloc w _)
 have HW : Hid (w.alloc (.cells #[.int .i64 0, .int .i64 0, .int .i64 0, .string ⟨#[]⟩, .slice none 0 0, .slice none 0 0, .int .i64 0] 101) = wz) := qh hwz.symm
 have HTb := qh htb
 clear hwz htb hD hF hP0 ho hn
 go_enter Tryz.func77, Tryz.ntmps77
 go_upto_region 1 with (fail)
 rw [HW.out, ← HTb.out]
 go_wp2_with fail
 refine (HG.out wz HPz.out).mono ?_
 rintro e W2 ⟨cs, rfl, hL, hP⟩
 have HL := qh hL
 have HB2 := qh (HBz.out.ext hP id)
 have HP2 := qh (HPz.out.pure hP)
 have HN2 := qh (HN.out cs hL)
 obtain ⟨va, vc, vrows, hcs, _⟩ := hL.kids
 unfold AskTo NodeTo at *
 rw [hcs] at HN2 ⊢
 have HCs := qh hcs
 clear hL hP hcs HN HG
 have HV : Hid (∃ v, v = o.v) := qh ⟨_, rfl⟩
 generalize o.v.l.length = vm at *
 generalize o.v.kind = vk at *
 generalize o.v.n = vn at *
 generalize o.v.s = vs at *
 generalize o.st = st at *
 generalize o.data = dt at *
 simp only [List.cons_append, List.nil_append] at HN2 ⊢
 go_wp2_with fail
 refine (HN2.out _ (HP2.out.pure (ext_alloc W2 _))).mono ?_
 rintro e W4 ⟨xa, xm, xc, cn, rfl, hP4, hK⟩
 obtain ⟨rfl, rfl, hO⟩ := hK kids q Hn.out
 have HO := qh (own_base hO (B' := tb + 1) (by rw [World.size_alloc]; have := HB2.out.lt; omega))
 have HP4 := qh ((HP2.out.pure (ext_alloc W2 _)).pure hP4)
 have HB4 := qh ((HB2.out.alloc (.cells #[.int .i64 vk, .int .i64 vn, .string vs, .slice va vm vc, .bool st, .string dt] 61)).ext hP4 id)
 rw [show (nodeO o).isSome = true by rw [Hn.out]; rfl]
 clear hP4 hK hO HN2
 obtain ⟨km, hkm⟩ : ∃ z, z = kids.length := ⟨_, rfl⟩
 rw [← hkm] at HO ⊢
 have HKm := qh hkm
 clear hkm
 obtain ⟨W5, hW5⟩ : ∃ z, z = W4.alloc (.cells #[.int .i64 n, .int .i64 vk, .int .i64 vn, .string vs, .slice va vm vc, .slice xa km xc, .int .i64 cn] 101) := ⟨_, rfl⟩
 have HW5 := qh hW5
 have HB5 : Hid (BlockIs W5 tb zeroNd 101) := qh (by rw [hW5]; exact HB4.out.alloc _)
 have HP5 : Hid (Pure w W5) := qh (by rw [hW5]; exact HP4.out.pure (ext_alloc _ _))
 have HO5 := qh (own_ext HO.out (show Pure W4 W5 by rw [hW5]; exact ext_alloc _ _) (fun _ _ => id))
 have HTh : Hid (W5.there tb 0 (#[Value.int .i64 n, .int .i64 vk, .int .i64 vn, .string vs, .slice va vm vc, .slice xa km xc, .int .i64 cn] : Array Value).size) := qh (HB5.out.there 7 rfl)
 have HSi : Hid ((Tryz.prog.info? 101).map (·.size) = some (#[Value.int .i64 n, .int .i64 vk, .int .i64 vn, .string vs, .slice va vm vc, .slice xa km xc, .int .i64 cn] : Array Value).size) := qh size105
 have HOn := qh (one7 n vk vn vs va vm vc xa km xc cn)
 have HBr := qh (HB5.out.setAll [.int .i64 n, .int .i64 vk, .int .i64 vn, .string vs, .slice va vm vc, .slice xa km xc, .int .i64 cn] rfl)
 have HPr : Hid (Pure w (W5.setCells tb 0 [.int .i64 n, .int .i64 vk, .int .i64 vn, .string vs, .slice va vm vc, .slice xa km xc, .int .i64 cn])) := qh (Ext.setCells _ 0 _ HP5.out (b := tb) (fun h => by have := HTb.out; omega))
 have HOr := qh (own_ext HO5.out (Ext.setCells (S := fun b => b = tb) [.int .i64 n, .int .i64 vk, .int .i64 vn, .string vs, .slice va vm vc, .slice xa km xc, .int .i64 cn] 0 _ (Ext.refl _ _) (b := tb) (fun _ => rfl)) (fun g hg e => by have := (HO5.out.lt g hg).1; omega))
 clear hW5
 go_wp2_with (first
  | (with_reducible refine at_store 101 (.tmp 4) (.tmp 33) ?_; rw [← HW5.out]; refine wpList_store_mid rfl 101 (.tmp 4) (.tmp 33) rfl tb 0 #[.int .i64 n, .int .i64 vk, .int .i64 vn, .string vs, .slice va vm vc, .slice xa km xc, .int .i64 cn] rfl rfl HTh.out HSi.out HOn.out ?_))
 refine bodyPost_ret (results_row3 rfl _ _ tb _ [.int .i64 n, .int .i64 vk, .int .i64 vn, .string vs, .slice va vm vc, .slice xa km xc, .int .i64 cn] _ rfl HBr.out Tryz.underlying101 rfl size105) rfl ?_
 exact ⟨[.int .i64 vk, .int .i64 vn, .string vs, .slice va vm vc], xa, xc, by rw [HKm.out]; rfl, by rw [← HCs.out]; exact HL.out, HPr.out, by rw [← HKm.out]; exact own_base HOr.out (by have := HTb.out; omega)⟩
set_option maxHeartbeats 1000000 in
theorem froot_any {fb db : Nat} {oa : Option Addr} {n oc : Nat} {root : Int} (w : World) (h : FileAt w fb db oa n oc root) :
 Calls Tryz.prog 82 #[.pointer (some ⟨fb, 0, none⟩)] w (IntTo root w) := by
 have HIs := qh (is_any w h)
 have HF := qh h
 clear h
 go_enter Tryz.func82, Tryz.ntmps82
 go_wp2_with fail
 refine HIs.out.mono ?_
 rintro e w2 ⟨rfl, hP⟩
 have c0 : w2.cell? ⟨fb, 0, none⟩ = some (.int .i64 root) := (HF.out.f.ext hP id).cell 0
 have HP := qh hP
 clear hP
 go_wp2_with fail
 go_ret
 exact ⟨rfl, HP.out⟩
structure TopOk (l : List Ob) (root n : Int) (kids : List Int) (q : Int) : Prop where
 root : rootO (obAt l root) = some n
 node : nodeO (obAt l n) = some (kids, q)
set_option maxHeartbeats 2000000 in
theorem top_any (d : Nat) (l : List Ob) (oa : Option Addr) (oc : Nat) (root : Int) (rows : List (List Value)) (fb db : Nat) (n : Int) (w0 w : World) (hP0 : Pure w0 w) (hD : DocOk w0 d l oa rows root) (hF : FileAt w fb db oa l.length oc root)
 (kids : List Int) (q : Int) (hT : TopOk l root n kids q) :
 Calls Tryz.prog 43 #[.pointer (some ⟨fb, 0, none⟩)] w (AskTo w0 d (obAt l n).v n kids q w) := by
 have HG := qh (fun W (hP : Pure w W) => fget_any d l oa oc root rows fb db root w0 W (hP0.pure hP) hD.ok (by have := hD.len; omega) (hF.ext hP id id))
 have HAs := qh (fun W (hP : Pure w W) => ask_any d l oa oc root rows fb db n w0 W (hP0.pure hP) hD (hF.ext hP id id) kids q hT.node)
 have HRo := qh (fun W (hP : Pure w W) => froot_any W (hF.ext hP id id))
 have hsz := hD.at_size root
 obtain ⟨o, ho⟩ : ∃ z, z = obAt l root := ⟨_, rfl⟩
 have hr := hT.root
 rw [← ho] at HG hr hsz
 have HRt := qh (fun cs (hL : Lies w0 (d + 1) o.v cs) W (hP : Pure w W) => root_any d o cs W (hL.pure (hP0.pure hP)) (by have := V.len_size o.v; omega))
 rw [hr] at HRt
 obtain ⟨wz, hwz⟩ : ∃ z, z = w.alloc (.cells zeroNd.toArray 101) := ⟨_, rfl⟩
 obtain ⟨tb, htb⟩ : ∃ z, z = w.heap.size := ⟨_, rfl⟩
 have HBz : Hid (BlockIs wz tb zeroNd 101) := qh (by rw [hwz, htb]; exact BlockIs.new w _ _)
 have HPz : Hid (Pure w wz) := qh (by rw [hwz]; exact ext_alloc w _)
 have HW : Hid (w.alloc (.cells #[.int .i64 0, .int .i64 0, .int .i64 0, .string ⟨#[]⟩, .slice none 0 0, .slice none 0 0, .int .i64 0] 101) = wz) := qh hwz.symm
 have HTb := qh htb
 clear hwz htb hD hF hP0 ho hr hsz hT
 go_enter Tryz.func43, Tryz.ntmps43
 go_upto_region 1 with (fail)
 rw [HW.out, ← HTb.out]
 go_wp2_with fail
 refine (HRo.out wz HPz.out).mono ?_
 rintro e W1 ⟨rfl, hP1⟩
 have HP1 := qh (HPz.out.pure hP1)
 have HB1 := qh (HBz.out.ext hP1 id)
 clear hP1 HRo
 go_wp2_with fail
 refine (HG.out W1 HP1.out).mono ?_
 rintro e W2 ⟨cs, rfl, hL, hP⟩
 have HB2 := qh (HB1.out.ext hP id)
 have HP2 := qh (HP1.out.pure hP)
 have HRt2 := qh (HRt.out cs hL)
 obtain ⟨va, vc, vrows, hcs, _⟩ := hL.kids
 unfold RootTo at HRt2
 unfold AskTo at HAs ⊢
 simp only [Option.getD_some, Option.isSome_some] at HRt2
 rw [hcs] at HRt2 ⊢
 clear hL hP hcs HRt HG
 generalize o.v.l.length = vm at *
 generalize o.v.kind = vk at *
 generalize o.v.n = vn at *
 generalize o.v.s = vs at *
 generalize o.st = st at *
 generalize o.data = dt at *
 simp only [List.cons_append, List.nil_append] at HRt2 ⊢
 go_wp2_with fail
 refine (HRt2.out _ (HP2.out.pure (ext_alloc W2 _))).mono ?_
 rintro e W4 ⟨rfl, hP4⟩
 have HP4 := qh ((HP2.out.pure (ext_alloc W2 _)).pure hP4)
 have HB4 := qh ((HB2.out.alloc (.cells #[.int .i64 vk, .int .i64 vn, .string vs, .slice va vm vc, .bool st, .string dt] 61)).ext hP4 id)
 clear hP4 HRt2
 go_wp2_with fail
 refine (HAs.out W4 HP4.out).mono ?_
 rintro e W5 ⟨cs, xa, xc, rfl, hL, hP5, hO⟩
 have HLc := qh hL
 obtain ⟨ua, uc, urows, hcs, _⟩ := hL.kids
 have HCs := qh hcs
 rw [hcs]
 have HB5 := qh (HB4.out.ext hP5 id)
 have HP5 := qh (HP4.out.pure hP5)
 have HO := qh (own_base hO (B' := tb + 1) (by have := HB4.out.lt; omega))
 clear hL hP5 hO hcs HAs
 generalize (obAt l n).v.l.length = um at *
 generalize (obAt l n).v.kind = uk at *
 generalize (obAt l n).v.n = un at *
 generalize (obAt l n).v.s = us at *
 obtain ⟨km, hkm⟩ : ∃ z, z = kids.length := ⟨_, rfl⟩
 rw [← hkm] at HO ⊢
 have HKm := qh hkm
 clear hkm
 simp only [List.cons_append, List.nil_append]
 have HTh : Hid (W5.there tb 0 (#[Value.int .i64 n, .int .i64 uk, .int .i64 un, .string us, .slice ua um uc, .slice xa km xc, .int .i64 q] : Array Value).size) := qh (HB5.out.there 7 rfl)
 have HSi : Hid ((Tryz.prog.info? 101).map (·.size) = some (#[Value.int .i64 n, .int .i64 uk, .int .i64 un, .string us, .slice ua um uc, .slice xa km xc, .int .i64 q] : Array Value).size) := qh size105
 have HOn := qh (one7 n uk un us ua um uc xa km xc q)
 have HBr := qh (HB5.out.setAll [.int .i64 n, .int .i64 uk, .int .i64 un, .string us, .slice ua um uc, .slice xa km xc, .int .i64 q] rfl)
 have HPr : Hid (Pure w (W5.setCells tb 0 [.int .i64 n, .int .i64 uk, .int .i64 un, .string us, .slice ua um uc, .slice xa km xc, .int .i64 q])) := qh (Ext.setCells _ 0 _ HP5.out (b := tb) (fun h => by have := HTb.out; omega))
 have HOr := qh (own_ext HO.out (Ext.setCells (S := fun b => b = tb) [.int .i64 n, .int .i64 uk, .int .i64 un, .string us, .slice ua um uc, .slice xa km xc, .int .i64 q] 0 _ (Ext.refl _ _) (b := tb) (fun _ => rfl)) (fun g hg e => by have := (HO.out.lt g hg).1; omega))
 go_wp2_with (first
  | (with_reducible refine at_store 101 (.tmp 2) (.tmp 34) ?_; refine wpList_store_mid rfl 101 (.tmp 2) (.tmp 34) rfl tb 0 #[.int .i64 n, .int .i64 uk, .int .i64 un, .string us, .slice ua um uc, .slice xa km xc, .int .i64 q] rfl rfl HTh.out HSi.out HOn.out ?_))
 refine bodyPost_ret (results_row3 rfl _ _ tb _ [.int .i64 n, .int .i64 uk, .int .i64 un, .string us, .slice ua um uc, .slice xa km xc, .int .i64 q] _ rfl HBr.out Tryz.underlying101 rfl size105) rfl ?_
 exact ⟨[.int .i64 uk, .int .i64 un, .string us, .slice ua um uc], xa, xc, by rw [HKm.out]; rfl, by rw [← HCs.out]; exact HLc.out, HPr.out, by rw [← HKm.out]; exact own_base HOr.out (by have := HTb.out; omega)⟩
set_option maxHeartbeats 1000000 in
theorem pages_any (d : Nat) (l : List Ob) (oa : Option Addr) (oc : Nat) (root : Int) (rows : List (List Value)) (fb db : Nat) (n : Int) (w0 w : World) (hP0 : Pure w0 w) (hD : DocOk w0 d l oa rows root) (hF : FileAt w fb db oa l.length oc root)
 (kids : List Int) (q : Int) (hT : TopOk l root n kids q) :
 Calls Tryz.prog 17 #[.pointer (some ⟨fb, 0, none⟩)] w (fun e w' => e = .returned (.tuple #[.int .i64 q, .int .i64 0, .int .i64 0]) ∧ Pure w w') := by
 have HTo := qh (top_any d l oa oc root rows fb db n w0 w hP0 hD hF kids q hT)
 clear hP0 hD hF hT
 unfold AskTo at HTo
 go_enter Tryz.func17, Tryz.ntmps17
 go_wp2_with fail
 refine HTo.out.mono ?_
 rintro e W5 ⟨cs, xa, xc, rfl, hL, hP5, hO⟩
 obtain ⟨ua, uc, urows, hcs, _⟩ := hL.kids
 rw [hcs]
 have HP5 := qh hP5
 clear hL hP5 hO hcs HTo
 generalize (obAt l n).v.l.length = um at *
 generalize (obAt l n).v.kind = uk at *
 generalize (obAt l n).v.n = un at *
 generalize (obAt l n).v.s = us at *
 generalize kids.length = km at *
 simp only [List.cons_append, List.nil_append]
 go_wp2_with fail
 go_ret3
 exact ⟨rfl, HP5.out.pure (ext_alloc W5 _)⟩
