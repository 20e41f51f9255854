/- Printed: functions of the given program as functions over plain data, and that the machine does what they say; no claim of its own; no condition. -/
import Derived.Test.YtlkddekecegfdaaLfN
set_option maxRecDepth 100000
set_option maxHeartbeats 4000000
set_option linter.unusedVariables false
set_option linter.unusedSimpArgs false
namespace Go.AM
open Go

structure Isochronref16Draft where
  Bridges : Int
  Stations : Int
  Chords : (List Int)
  Homes : (List Int)
  Pers : (List Int)
  Delays : (List Int)
  deriving Inhabited
def eIsochronref16Draft : Enc Isochronref16Draft := eMap (fun s => (s.Bridges, s.Stations, s.Chords, s.Homes, s.Pers, s.Delays, ())) (ePair (eInt .u8) (ePair (eInt .u8) (ePair (eSl (eInt .u8)) (ePair (eSl (eInt .u8)) (ePair (eSl (eInt .u8)) (ePair (eSl (eInt .u8)) eUnit))))))
theorem eIsochronref16Draft_el {φ : Fz} {cs : List Value} {x : Isochronref16Draft} (h : eIsochronref16Draft.R φ cs x) : ∃ a163807 n163807 c163807, ∃ a163808 n163808 c163808, ∃ a163809 n163809 c163809, ∃ a163810 n163810 c163810, cs = [.int .u8 x.Bridges, .int .u8 x.Stations, .slice a163807 n163807 c163807, .slice a163808 n163808 c163808, .slice a163809 n163809 c163809, .slice a163810 n163810 c163810] ∧ RSl (eInt .u8) φ (.slice a163807 n163807 c163807) x.Chords ∧ RSl (eInt .u8) φ (.slice a163808 n163808 c163808) x.Homes ∧ RSl (eInt .u8) φ (.slice a163809 n163809 c163809) x.Pers ∧ RSl (eInt .u8) φ (.slice a163810 n163810 c163810) x.Delays := by
  obtain ⟨p1, r1, e1, g1, p2, r2, e2, g2, p3, r3, e3, g3, p4, r4, e4, g4, p5, r5, e5, g5, p6, r6, e6, g6, gl⟩ := h
  have gl : r6 = [] := gl
  have g1 : p1 = [.int .u8 x.Bridges] := g1
  have g2 : p2 = [.int .u8 x.Stations] := g2
  obtain ⟨a3, n3, c3, g3, R3⟩ := g3
  obtain ⟨a4, n4, c4, g4, R4⟩ := g4
  obtain ⟨a5, n5, c5, g5, R5⟩ := g5
  obtain ⟨a6, n6, c6, g6, R6⟩ := g6
  subst gl
  subst g1 g2 g3 g4 g5 g6
  subst e6
  subst e5
  subst e4
  subst e3
  subst e2
  subst e1
  exact ⟨a3, n3, c3, a4, n4, c4, a5, n5, c5, a6, n6, c6, rfl, R3, R4, R5, R6⟩
structure ApiLink where
  A : Int
  B : Int
  Per : Int
  Delay : Int
  deriving Inhabited
def eApiLink : Enc ApiLink := eMap (fun s => (s.A, s.B, s.Per, s.Delay, ())) (ePair (eInt .i64) (ePair (eInt .i64) (ePair (eInt .i64) (ePair (eInt .i64) eUnit))))
theorem eApiLink_el {φ : Fz} {cs : List Value} {x : ApiLink} (h : eApiLink.R φ cs x) : cs = [.int .i64 x.A, .int .i64 x.B, .int .i64 x.Per, .int .i64 x.Delay] := by
  obtain ⟨p1, r1, e1, g1, p2, r2, e2, g2, p3, r3, e3, g3, p4, r4, e4, g4, gl⟩ := h
  have gl : r4 = [] := gl
  have g1 : p1 = [.int .i64 x.A] := g1
  have g2 : p2 = [.int .i64 x.B] := g2
  have g3 : p3 = [.int .i64 x.Per] := g3
  have g4 : p4 = [.int .i64 x.Delay] := g4
  subst gl
  subst g1 g2 g3 g4
  subst e4
  subst e3
  subst e2
  subst e1
  exact rfl
structure ApiTopo where
  Nodes : Int
  Station : (List Bool)
  Links : (List ApiLink)
  deriving Inhabited
def eApiTopo : Enc ApiTopo := eMap (fun s => (s.Nodes, s.Station, s.Links, ())) (ePair (eInt .i64) (ePair (eSl eBool) (ePair (eSl eApiLink) eUnit)))
theorem eApiTopo_el {φ : Fz} {cs : List Value} {x : ApiTopo} (h : eApiTopo.R φ cs x) : ∃ a163811 n163811 c163811, ∃ a163812 n163812 c163812, cs = [.int .i64 x.Nodes, .slice a163811 n163811 c163811, .slice a163812 n163812 c163812] ∧ RSl eBool φ (.slice a163811 n163811 c163811) x.Station ∧ RSl eApiLink φ (.slice a163812 n163812 c163812) x.Links := by
  obtain ⟨p1, r1, e1, g1, p2, r2, e2, g2, p3, r3, e3, g3, gl⟩ := h
  have gl : r3 = [] := gl
  have g1 : p1 = [.int .i64 x.Nodes] := g1
  obtain ⟨a2, n2, c2, g2, R2⟩ := g2
  obtain ⟨a3, n3, c3, g3, R3⟩ := g3
  subst gl
  subst g1 g2 g3
  subst e3
  subst e2
  subst e1
  exact ⟨a2, n2, c2, a3, n3, c3, rfl, R2, R3⟩
structure TopoEnd where
  Link : ApiLink
  port : Int
  deriving Inhabited
def eTopoEnd : Enc TopoEnd := eMap (fun s => (s.Link, s.port, ())) (ePair eApiLink (ePair (eInt .i64) eUnit))
theorem eTopoEnd_el {φ : Fz} {cs : List Value} {x : TopoEnd} (h : eTopoEnd.R φ cs x) : cs = [.int .i64 x.Link.A, .int .i64 x.Link.B, .int .i64 x.Link.Per, .int .i64 x.Link.Delay, .int .i64 x.port] := by
  obtain ⟨p1, r1, e1, g1, p2, r2, e2, g2, gl⟩ := h
  have gl : r2 = [] := gl
  obtain g1 := eApiLink_el g1
  have g2 : p2 = [.int .i64 x.port] := g2
  subst gl
  subst g1 g2
  subst e2
  subst e1
  exact rfl
structure RouteWalk where
  Topo : ApiTopo
  deriving Inhabited
def eRouteWalk : Enc RouteWalk := eMap (fun s => (s.Topo, ())) (ePair eApiTopo eUnit)
theorem eRouteWalk_el {φ : Fz} {cs : List Value} {x : RouteWalk} (h : eRouteWalk.R φ cs x) : ∃ a163813 n163813 c163813, ∃ a163814 n163814 c163814, cs = [.int .i64 x.Topo.Nodes, .slice a163813 n163813 c163813, .slice a163814 n163814 c163814] ∧ RSl eBool φ (.slice a163813 n163813 c163813) x.Topo.Station ∧ RSl eApiLink φ (.slice a163814 n163814 c163814) x.Topo.Links := by
  obtain ⟨p1, r1, e1, g1, gl⟩ := h
  have gl : r1 = [] := gl
  obtain ⟨a1_0, n1_0, c1_0, a1_1, n1_1, c1_1, g1, R1_0, R1_1⟩ := eApiTopo_el g1
  subst gl
  subst g1
  subst e1
  exact ⟨a1_0, n1_0, c1_0, a1_1, n1_1, c1_1, rfl, R1_0, R1_1⟩


/-! isochron/isochronlaw21.line -/
def m_isochronlaw21_line : R ApiTopo :=
  .ok ((ApiTopo.mk 4 [true, false, false, true] [(ApiLink.mk 0 1 8 50), (ApiLink.mk 1 2 8 0), (ApiLink.mk 2 3 80 7)]))

/-! isochron/topo.isNode -/
def m_topo_isNode (p132 : ApiTopo) (p135 : Int) : R Bool :=
  sh ((decide (0 ≤ p135)) && (decide (p135 < p132.Nodes))) fun (s141 : Bool) =>
  (.ok s141)

/-! isochron/topo.validLink -/
def m_topo_validLink_l1 (e117 : ApiLink) (p105 : ApiTopo) (p108 : Int) (rec274 : Int → R Bool) (s246 : Int) : R Bool :=
  if (decide (s246 < ((p105.Links.take (p108).toNat).length : Int))) then (bindR (idx (p105.Links.take (p108).toNat) s246) fun e280 =>
  sh ((decide (e280.A = e117.A)) && (decide (e280.B = e117.B))) fun (s288 : Bool) =>
  (sh (s288 || ((decide (e280.A = e117.B)) && (decide (e280.B = e117.A)))) fun (s292 : Bool) =>
  (if s292 then (if (!(!(decide (0 ≤ s246)))) then (.ok false)
  else (.ok true))
  else (rec274 (w64 (s246 + 1))))))
  else (.ok true)
def m_topo_validLink (p105 : ApiTopo) (p108 : Int) : R Bool :=
  bindR (idx p105.Links p108) fun e117 =>
  bindR (m_topo_isNode p105 (e117.A)) fun e147 =>
  sh (fun (s157 : Bool) => (sh (s157 && (decide (e117.A ≠ e117.B))) fun (s161 : Bool) =>
  (if (!s161) then (.ok false)
  else (bindR (idx p105.Station e117.A) fun e165 =>
  sh (fun (s173 : Bool) => (if (!s173) then (.ok false)
  else (sh ((decide (1 ≤ e117.Per)) && (decide (e117.Per ≤ 1000))) fun (s178 : Bool) =>
  (sh (s178 && (decide (0 ≤ e117.Delay))) fun (s182 : Bool) =>
  (sh (s182 && (decide (e117.Delay ≤ 10000))) fun (s186 : Bool) =>
  (if (!s186) then (.ok false)
  else (bindR (must (decide (0 ≤ p108 ∧ p108 ≤ (p105.Links.length : Int)))) fun _ =>
  loopM (m_topo_validLink_l1 e117 p105 p108) LL 0))))))) fun j313 =>
  (if (!e165) then (j313 true)
  else (bindR (idx p105.Station e117.B) fun e316 =>
  j313 (!e316))))))) fun j322 =>
  (if e147 then (bindR (m_topo_isNode p105 (e117.B)) fun e325 =>
  j322 e325)
  else (j322 false))

/-! (isochron/topo.end).from -/
def m_topo_end_from (p395 : TopoEnd) : R Int :=
  if (decide ((Int.tmod p395.port 2) = 0)) then (.ok (p395.Link.A))
  else (.ok (p395.Link.B))

/-! isochron/topo.degree -/
def m_topo_degree_l1 (p343 : ApiTopo) (p346 : Int) (rec574 : (Int × Int) → R Int) (s509 : Int × Int) : R Int :=
  if (decide (s509.1 < (p343.Links.length : Int))) then (bindR (idx p343.Links s509.1) fun e580 =>
  bindR (m_topo_end_from ((TopoEnd.mk e580 (w64 (2 * s509.1))))) fun e598 =>
  sh (fun (s605 : Int) => (bindR (m_topo_end_from ((TopoEnd.mk e580 (w64 ((w64 (2 * s509.1)) + 1))))) fun e621 =>
  sh (fun (s628 : Int) => (rec574 ((w64 (s509.1 + 1)), s628))) fun j631 =>
  (if (decide (e621 = p346)) then (j631 (w64 (s605 + 1)))
  else (j631 s605)))) fun j608 =>
  (if (decide (e598 = p346)) then (j608 (w64 (s509.2 + 1)))
  else (j608 s509.2)))
  else (.ok (s509.2))
def m_topo_degree (p343 : ApiTopo) (p346 : Int) : R Int :=
  loopM (m_topo_degree_l1 p343 p346) LL (0, 0)

/-! (isochron/topo.end).to -/
def m_topo_end_to (p731 : TopoEnd) : R Int :=
  bindR (m_topo_end_from p731) fun e736 =>
  .ok ((w64 ((w64 (p731.Link.A + p731.Link.B)) - e736)))

/-! slices.Index[[]int,int] -/
def m_slices_Index_int_int_l1 (p743 : (List Int)) (p745 : Int) (rec770 : Int → R Int) (s762 : Int) : R Int :=
  if (decide (s762 < (p743.length : Int))) then (bindR (idx p743 s762) fun e776 =>
  if (decide (p745 = e776)) then (.ok s762)
  else (rec770 (w64 (s762 + 1))))
  else (.ok ((-1)))
def m_slices_Index_int_int (p743 : (List Int)) (p745 : Int) : R Int :=
  loopM (m_slices_Index_int_int_l1 p743 p745) LL 0

/-! slices.Contains[[]int,int] -/
def m_slices_Contains_int_int (p740 : (List Int)) (p742 : Int) : R Bool :=
  bindR (m_slices_Index_int_int p740 p742) fun e780 =>
  .ok ((decide (0 ≤ e780)))

/-! isochron/topo.reach -/
def m_topo_reach_l1 (p3337 : ApiTopo) (p3341 : (List Int)) (rec5306 : (List Bool) → R (List Bool)) (rec5796 : (Int × (List Bool)) → R (List Bool)) (s5638 : Int × (List Bool)) : R (List Bool) :=
  if (decide (s5638.1 < (p3337.Links.length : Int))) then (bindR (idx p3337.Links s5638.1) fun e5802 =>
  bindR (m_topo_end_from ((TopoEnd.mk e5802 (w64 (2 * s5638.1))))) fun e5820 =>
  bindR (idx s5638.2 e5820) fun e5824 =>
  sh (fun (s5836 : Bool) => (sh (fun (s5845 : Bool) => (if s5845 then (bindR (m_topo_end_to ((TopoEnd.mk e5802 (w64 (2 * s5638.1))))) fun e5849 =>
  bindR (idx s5638.2 e5849) fun e5853 =>
  rec5306 (s5638.2.set (e5849).toNat true))
  else (bindR (m_topo_end_from ((TopoEnd.mk e5802 (w64 ((w64 (2 * s5638.1)) + 1))))) fun e5874 =>
  bindR (idx s5638.2 e5874) fun e5878 =>
  sh (fun (s5890 : Bool) => (sh (fun (s5899 : Bool) => (if s5899 then (bindR (m_topo_end_to ((TopoEnd.mk e5802 (w64 ((w64 (2 * s5638.1)) + 1))))) fun e5903 =>
  bindR (idx s5638.2 e5903) fun e5907 =>
  rec5306 (s5638.2.set (e5903).toNat true))
  else (rec5796 ((w64 (s5638.1 + 1)), s5638.2)))) fun j5919 =>
  (if s5890 then (bindR (m_slices_Contains_int_int p3341 ((w64 (Int.tdiv (w64 ((w64 (2 * s5638.1)) + 1)) 2)))) fun e5922 =>
  j5919 (!e5922))
  else (j5919 false)))) fun j5926 =>
  (if e5878 then (bindR (m_topo_end_to ((TopoEnd.mk e5802 (w64 ((w64 (2 * s5638.1)) + 1))))) fun e5929 =>
  bindR (idx s5638.2 e5929) fun e5933 =>
  j5926 (!e5933))
  else (j5926 false))))) fun j5936 =>
  (if s5836 then (bindR (m_slices_Contains_int_int p3341 ((w64 (Int.tdiv (w64 (2 * s5638.1)) 2)))) fun e5939 =>
  j5936 (!e5939))
  else (j5936 false)))) fun j5943 =>
  (if e5824 then (bindR (m_topo_end_to ((TopoEnd.mk e5802 (w64 (2 * s5638.1))))) fun e5946 =>
  bindR (idx s5638.2 e5946) fun e5950 =>
  j5943 (!e5950))
  else (j5943 false)))
  else (.ok (s5638.2))
def m_topo_reach_l2 (p3337 : ApiTopo) (p3341 : (List Int)) (rec5306 : (List Bool) → R (List Bool)) (s4658 : (List Bool)) : R (List Bool) :=
  loopM (m_topo_reach_l1 p3337 p3341 rec5306) LL (0, s4658)
def m_topo_reach (p3337 : ApiTopo) (p3340 : Int) (p3341 : (List Int)) : R (List Bool) :=
  bindR (must (decide (0 ≤ p3337.Nodes ∧ p3337.Nodes ≤ 1000000000))) fun _ =>
  bindR (idx (List.replicate (p3337.Nodes).toNat false) p3340) fun e3359 =>
  loopM (m_topo_reach_l2 p3337 p3341) LL ((List.replicate (p3337.Nodes).toNat false).set (p3340).toNat true)

/-! slices.Index[[]bool,bool] -/
def m_slices_Index_bool_bool_l1 (p5969 : (List Bool)) (p5971 : Bool) (rec5996 : Int → R Int) (s5988 : Int) : R Int :=
  if (decide (s5988 < (p5969.length : Int))) then (bindR (idx p5969 s5988) fun e6002 =>
  if (p5971 == e6002) then (.ok s5988)
  else (rec5996 (w64 (s5988 + 1))))
  else (.ok ((-1)))
def m_slices_Index_bool_bool (p5969 : (List Bool)) (p5971 : Bool) : R Int :=
  loopM (m_slices_Index_bool_bool_l1 p5969 p5971) LL 0

/-! slices.Contains[[]bool,bool] -/
def m_slices_Contains_bool_bool (p5966 : (List Bool)) (p5968 : Bool) : R Bool :=
  bindR (m_slices_Index_bool_bool p5966 p5968) fun e6006 =>
  .ok ((decide (0 ≤ e6006)))

/-! isochron/topo.Check -/
def m_topo_Check_l1 (p81 : ApiTopo) (rec6782 : Int → R Int) (s6730 : Int) : R Int :=
  if (decide (s6730 < (p81.Station.length : Int))) then (bindR (idx p81.Station s6730) fun e6788 =>
  sh (fun (s6802 : Bool) => (if s6802 then (.ok 260)
  else (rec6782 (w64 (s6730 + 1))))) fun j6806 =>
  (if e6788 then (bindR (m_topo_degree p81 s6730) fun e6809 =>
  if (decide (e6809 < 1)) then (j6806 true)
  else (bindR (m_topo_degree p81 s6730) fun e6814 =>
  j6806 (decide (2 < e6814))))
  else (j6806 false)))
  else (bindR (m_topo_reach p81 0 ([])) fun e6818 =>
  bindR (m_slices_Contains_bool_bool e6818 false) fun e6831 =>
  if e6831 then (.ok 260)
  else (.ok 0))
def m_topo_Check_l2 (p81 : ApiTopo) (rec6615 : Int → R Int) (s6396 : Int) : R Int :=
  if (decide (s6396 < (p81.Links.length : Int))) then (bindR (m_topo_validLink p81 s6396) fun e6621 =>
  if (!e6621) then (.ok 260)
  else (rec6615 (w64 (s6396 + 1))))
  else (loopM (m_topo_Check_l1 p81) LL 0)
def m_topo_Check (p81 : ApiTopo) : R Int :=
  sh ((decide (p81.Nodes < 2)) || (decide (12 < p81.Nodes))) fun (s89 : Bool) =>
  (sh (s89 || (decide ((p81.Station.length : Int) ≠ p81.Nodes))) fun (s93 : Bool) =>
  (sh (s93 || (decide (24 < (p81.Links.length : Int)))) fun (s97 : Bool) =>
  (if s97 then (.ok 260)
  else (loopM (m_topo_Check_l2 p81) LL 0))))

/-! isochron/topo.From -/
def m_topo_From (p6969 : ApiTopo) (p6972 : Int) : R (Int × Int) :=
  bindR (m_topo_Check p6969) fun e6981 =>
  if (decide (e6981 ≠ 0)) then (.ok (0, e6981))
  else (sh ((decide (p6972 < 0)) || (decide ((w64 (2 * (p6969.Links.length : Int))) ≤ p6972))) fun (s6987 : Bool) =>
  (if s6987 then (.ok (0, 2))
  else (bindR (idx p6969.Links (w64 (Int.tdiv p6972 2))) fun e6991 =>
  bindR (m_topo_end_from ((TopoEnd.mk e6991 p6972))) fun e6994 =>
  .ok (e6994, 0))))

/-! (isochron/route.walk).from -/
def m_route_walk_from (p6961 : RouteWalk) (p6964 : Int) : R Int :=
  bindR (m_topo_From (p6961.Topo) p6964) fun e7001 =>
  .ok (e7001.1)

/-! isochron/topo.To -/
def m_topo_To (p7054 : ApiTopo) (p7057 : Int) : R (Int × Int) :=
  bindR (m_topo_Check p7054) fun e7066 =>
  if (decide (e7066 ≠ 0)) then (.ok (0, e7066))
  else (sh ((decide (p7057 < 0)) || (decide ((w64 (2 * (p7054.Links.length : Int))) ≤ p7057))) fun (s7072 : Bool) =>
  (if s7072 then (.ok (0, 2))
  else (bindR (idx p7054.Links (w64 (Int.tdiv p7057 2))) fun e7076 =>
  bindR (m_topo_end_to ((TopoEnd.mk e7076 p7057))) fun e7079 =>
  .ok (e7079, 0))))

/-! (isochron/route.walk).valid -/
def m_route_walk_valid_l1 (p6856 : RouteWalk) (p6859 : (List Int)) (rec7344 : (Int × (List Int)) → R Bool) (s7254 : Int × (List Int)) : R Bool :=
  if (decide (s7254.1 < (p6859.length : Int))) then (bindR (idx p6859 s7254.1) fun e7350 =>
  bindR (m_topo_To (p6856.Topo) e7350) fun e7357 =>
  bindR (m_slices_Contains_int_int (s7254.2) (e7357.1)) fun e7368 =>
  sh (fun (s7385 : Bool × (List Int)) => (sh (fun (s7396 : Bool) => (if s7396 then (.ok ((decide ((s7385.2.length : Int) = (w64 ((p6859.length : Int) + 1))))))
  else (bindR (must (okLen (s7385.2.length + ([e7357.1]).length))) fun _ =>
  rec7344 ((w64 (s7254.1 + 1)), (s7385.2 ++ ([e7357.1])))))) fun j7411 =>
  (if s7385.1 then (j7411 true)
  else (if (decide (0 < (s7254.2.length : Int))) then (if (decide ((s7254.2.length : Int) < (p6859.length : Int))) then (bindR (idx p6856.Topo.Station e7357.1) fun e7416 =>
  j7411 e7416)
  else (j7411 false))
  else (j7411 false))))) fun j7419 =>
  (if e7368 then (j7419 (true, s7254.2))
  else (if (decide (0 < (s7254.2.length : Int))) then (bindR (idx p6859 (w64 ((s7254.2.length : Int) - 1))) fun e7423 =>
  bindR (m_route_walk_from p6856 e7423) fun e7426 =>
  bindR (idx s7254.2 (w64 ((s7254.2.length : Int) - 1))) fun e7430 =>
  j7419 ((decide (e7426 ≠ e7430)), s7254.2))
  else (j7419 (false, s7254.2)))))
  else (.ok ((decide ((s7254.2.length : Int) = (w64 ((p6859.length : Int) + 1))))))
def m_route_walk_valid_l2 (j7441 : Bool → R Bool) (p6856 : RouteWalk) (p6859 : (List Int)) (rec7489 : Int → R Bool) (s7474 : Int) : R Bool :=
  if (decide (s7474 < (p6859.length : Int))) then (bindR (idx p6859 s7474) fun e7495 =>
  sh ((decide (e7495 < 0)) || (decide ((w64 (2 * (p6856.Topo.Links.length : Int))) ≤ e7495))) fun (s7499 : Bool) =>
  (if s7499 then (j7441 (decide (0 ≤ s7474)))
  else (rec7489 (w64 (s7474 + 1)))))
  else (j7441 false)
def m_route_walk_valid (p6856 : RouteWalk) (p6859 : (List Int)) : R Bool :=
  sh ((decide ((p6859.length : Int) < 1)) || (decide (8 < (p6859.length : Int)))) fun (s6870 : Bool) =>
  (sh (fun (s6937 : Bool) => (if s6937 then (.ok false)
  else (bindR (idx p6859 0) fun e7005 =>
  bindR (m_route_walk_from p6856 e7005) fun e7008 =>
  bindR (m_slices_Contains_int_int ([]) e7008) fun e7015 =>
  sh (fun (s7021 : Bool) => (sh (fun (s7026 : Bool) => (if s7026 then (.ok ((decide (0 = (w64 ((p6859.length : Int) + 1))))))
  else (bindR (must (okLen (([] : List Int).length + ([e7008]).length))) fun _ =>
  loopM (m_route_walk_valid_l1 p6856 p6859) LL (0, (([] : List Int) ++ ([e7008])))))) fun j7435 =>
  (if s7021 then (j7435 true)
  else (j7435 false)))) fun j7438 =>
  (if e7015 then (j7438 true)
  else (j7438 false))))) fun j7441 =>
  (if s6870 then (j7441 true)
  else (loopM (m_route_walk_valid_l2 j7441 p6856 p6859) LL 0)))

/-! isochron/route.Check -/
def m_route_Check (p72 : ApiTopo) (p75 : (List Int)) : R Int :=
  bindR (m_topo_Check p72) fun e6845 =>
  if (decide (e6845 ≠ 0)) then (.ok e6845)
  else (bindR (m_route_walk_valid ((RouteWalk.mk p72)) p75) fun e7509 =>
  if (!e7509) then (.ok 310)
  else (.ok 0))

/-! (isochron/route.walk).list -/
def m_route_walk_list_l1 (p7683 : RouteWalk) (p7686 : (List Int)) (rec7814 : (Int × (List Int)) → R (List Int)) (s7786 : Int × (List Int)) : R (List Int) :=
  if (decide (s7786.1 < (p7686.length : Int))) then (bindR (idx p7686 s7786.1) fun e7820 =>
  bindR (m_topo_To (p7683.Topo) e7820) fun e7827 =>
  bindR (must (okLen (s7786.2.length + ([e7827.1]).length))) fun _ =>
  rec7814 ((w64 (s7786.1 + 1)), (s7786.2 ++ ([e7827.1]))))
  else (.ok (s7786.2))
def m_route_walk_list (p7683 : RouteWalk) (p7686 : (List Int)) : R (List Int) :=
  bindR (idx p7686 0) fun e7712 =>
  bindR (m_route_walk_from p7683 e7712) fun e7715 =>
  bindR (must (okLen (([] : List Int).length + ([e7715]).length))) fun _ =>
  loopM (m_route_walk_list_l1 p7683 p7686) LL (0, (([] : List Int) ++ ([e7715])))

/-! isochron/route.Nodes -/
def m_route_Nodes (p7854 : ApiTopo) (p7857 : (List Int)) : R ((List Int) × Int) :=
  bindR (m_route_Check p7854 p7857) fun e7871 =>
  if (decide (e7871 ≠ 0)) then (.ok ([], e7871))
  else (bindR (m_route_walk_list ((RouteWalk.mk p7854)) p7857) fun e7880 =>
  .ok (e7880, 0))

/-! isochron/route.Ends -/
def m_route_Ends (p7914 : ApiTopo) (p7917 : (List Int)) : R (Int × Int × Int) :=
  bindR (m_route_Nodes p7914 p7917) fun e7923 =>
  if (decide (e7923.2 ≠ 0)) then (.ok (0, 0, e7923.2))
  else (bindR (idx e7923.1 0) fun e7933 =>
  bindR (idx e7923.1 (w64 ((e7923.1.length : Int) - 1))) fun e7936 =>
  .ok (e7933, e7936, 0))

/-! isochron/route.Delay$1 -/
def m_route_Delay_1 (p7993 : ApiLink) : R Int :=
  .ok (p7993.Delay)

/-! isochron/route.Delay -/
def m_route_Delay_l1 (p7949 : ApiTopo) (p7952 : (List Int)) (rec8030 : (Int × Int) → R (Int × Int)) (s8016 : Int × Int) : R (Int × Int) :=
  if (decide (s8016.2 < (p7952.length : Int))) then (bindR (idx p7952 s8016.2) fun e8036 =>
  bindR (idx p7949.Links (w64 (Int.tdiv e8036 2))) fun e8039 =>
  bindR (m_route_Delay_1 e8039) fun e8042 =>
  rec8030 ((w64 (s8016.1 + e8042)), (w64 (s8016.2 + 1))))
  else (.ok (s8016.1, 0))
def m_route_Delay (p7949 : ApiTopo) (p7952 : (List Int)) : R (Int × Int) :=
  bindR (m_route_Check p7949 p7952) fun e7974 =>
  if (decide (e7974 ≠ 0)) then (.ok (0, e7974))
  else (loopM (m_route_Delay_l1 p7949 p7952) LL (0, 0))

/-! isochron/route.Time -/
def m_route_Time_l1 (p8056 : ApiTopo) (p8059 : (List Int)) (p8061 : Int) (rec8147 : (Int × Int) → R (Int × Int)) (s8133 : Int × Int) : R (Int × Int) :=
  if (decide (s8133.2 < (p8059.length : Int))) then (bindR (idx p8059 s8133.2) fun e8153 =>
  bindR (idx p8056.Links (w64 (Int.tdiv e8153 2))) fun e8156 =>
  rec8147 ((w64 (s8133.1 + (w64 ((w64 (p8061 * e8156.Per)) + e8156.Delay)))), (w64 (s8133.2 + 1))))
  else (.ok (s8133.1, 0))
def m_route_Time (p8056 : ApiTopo) (p8059 : (List Int)) (p8061 : Int) : R (Int × Int) :=
  bindR (m_route_Check p8056 p8059) fun e8070 =>
  if (decide (e8070 ≠ 0)) then (.ok (0, e8070))
  else (sh ((decide (p8061 < 84)) || (decide (1542 < p8061))) fun (s8076 : Bool) =>
  (if s8076 then (.ok (0, 2))
  else (bindR (m_route_Check p8056 p8059) fun e8096 =>
  if (decide (e8096 ≠ 0)) then (.ok (0, e8096))
  else (loopM (m_route_Time_l1 p8056 p8059 p8061) LL (0, 0)))))

/-! isochron/route.Back -/
def m_route_Back_l1 (p8305 : (List Int)) (rec8407 : (Int × (List Int)) → R ((List Int) × Int)) (s8386 : Int × (List Int)) : R ((List Int) × Int) :=
  if (decide (0 ≤ s8386.1)) then (bindR (idx p8305 s8386.1) fun e8413 =>
  bindR (must (okLen (s8386.2.length + ([(bitXor .i64 e8413 1)]).length))) fun _ =>
  rec8407 ((w64 (s8386.1 - 1)), (s8386.2 ++ ([(bitXor .i64 e8413 1)]))))
  else (.ok (s8386.2, 0))
def m_route_Back (p8302 : ApiTopo) (p8305 : (List Int)) : R ((List Int) × Int) :=
  bindR (m_route_Check p8302 p8305) fun e8319 =>
  if (decide (e8319 ≠ 0)) then (.ok ([], e8319))
  else (loopM (m_route_Back_l1 p8305) LL ((w64 ((p8305.length : Int) - 1)), []))

/-! isochron/route.inner -/
def m_route_inner (p8533 : (List Int)) : R (List Int) :=
  bindR (must (decide (0 ≤ 1 ∧ 1 ≤ (w64 ((p8533.length : Int) - 1)) ∧ (w64 ((p8533.length : Int) - 1)) ≤ (w64 ((p8533.length : Int) - 1)) ∧ (w64 ((p8533.length : Int) - 1)) ≤ (p8533.length : Int) ∧ 0 < (p8533.length : Int) ∧ (p8533.length : Int) ≤ 1000000000))) fun _ =>
  .ok (((p8533.take ((w64 ((p8533.length : Int) - 1))).toNat).drop (1 : Int).toNat))

/-! isochron/route.meet -/
def m_route_meet_l1 (p8546 : (List Int)) (p8548 : (List Int)) (rec8590 : Int → R Bool) (s8578 : Int) : R Bool :=
  if (decide (s8578 < (p8546.length : Int))) then (bindR (idx p8546 s8578) fun e8596 =>
  bindR (m_slices_Contains_int_int p8548 e8596) fun e8599 =>
  if e8599 then (.ok ((decide (0 ≤ s8578))))
  else (rec8590 (w64 (s8578 + 1))))
  else (.ok false)
def m_route_meet (p8546 : (List Int)) (p8548 : (List Int)) : R Bool :=
  loopM (m_route_meet_l1 p8546 p8548) LL 0

/-! isochron/route.Apart -/
def m_route_Apart_l1 (e8462 : ((List Int) × Int)) (e8472 : ((List Int) × Int)) (e9536 : Int) (p8452 : (List Int)) (rec9530 : Int → R (Bool × Int)) (s9089 : Int) (rec9824 : Int → R (Bool × Int)) (s9730 : Int) : R (Bool × Int) :=
  if (decide (s9730 < (p8452.length : Int))) then (bindR (idx p8452 s9730) fun e9830 =>
  if (decide ((w64 (Int.tdiv e9536 2)) = (w64 (Int.tdiv e9830 2)))) then (if (decide (0 ≤ s9730)) then (sh (fun (s9854 : (List Int) × Bool) => (sh (fun (s9875 : Bool) => (.ok (s9875, 0))) fun j9880 =>
  (if s9854.2 then (bindR (m_route_inner (e8472.1)) fun e9887 =>
  bindR (m_route_meet e9887 (s9854.1)) fun e9892 =>
  j9880 (!e9892))
  else (j9880 false)))) fun j9896 =>
  (if (!(decide (0 ≤ s9089))) then (bindR (m_route_inner (e8462.1)) fun e9903 =>
  bindR (m_route_meet e9903 (e8472.1)) fun e9912 =>
  j9896 (e8462.1, (!e9912)))
  else (j9896 (e8462.1, false))))
  else (rec9530 (w64 (s9089 + 1))))
  else (rec9824 (w64 (s9730 + 1))))
  else (rec9530 (w64 (s9089 + 1)))
def m_route_Apart_l2 (e8462 : ((List Int) × Int)) (e8472 : ((List Int) × Int)) (p8450 : (List Int)) (p8452 : (List Int)) (rec9530 : Int → R (Bool × Int)) (s9089 : Int) : R (Bool × Int) :=
  if (decide (s9089 < (p8450.length : Int))) then (bindR (idx p8450 s9089) fun e9536 =>
  loopM (m_route_Apart_l1 e8462 e8472 e9536 p8452 rec9530 s9089) LL 0)
  else (bindR (m_route_inner (e8462.1)) fun e9924 =>
  bindR (m_route_meet e9924 (e8472.1)) fun e9933 =>
  sh (fun (s9952 : Bool) => (.ok (s9952, 0))) fun j9957 =>
  (if (!e9933) then (bindR (m_route_inner (e8472.1)) fun e9964 =>
  bindR (m_route_meet e9964 (e8462.1)) fun e9969 =>
  j9957 (!e9969))
  else (j9957 false)))
def m_route_Apart (p8447 : ApiTopo) (p8450 : (List Int)) (p8452 : (List Int)) : R (Bool × Int) :=
  bindR (m_route_Nodes p8447 p8450) fun e8462 =>
  if (decide (e8462.2 ≠ 0)) then (.ok (false, e8462.2))
  else (bindR (m_route_Nodes p8447 p8452) fun e8472 =>
  if (decide (e8472.2 ≠ 0)) then (.ok (false, e8472.2))
  else (loopM (m_route_Apart_l2 e8462 e8472 p8450 p8452) LL 0))

/-! isochron/route.Tree -/
def m_route_Tree_l1 (p14276 : ApiTopo) (p14279 : (List (List Int))) (s18000 : (List Int) × Bool × (List Int) × Int) (rec18487 : (Bool × Int) → R ((List Int) × Bool × Int)) (s18435 : Bool × Int) : R ((List Int) × Bool × Int) :=
  if (decide (s18435.2 < (p14279.length : Int))) then (bindR (idx p14279 s18435.2) fun e18493 =>
  sh (fun (s18517 : Bool) => (rec18487 (s18517, (w64 (s18435.2 + 1))))) fun j18520 =>
  (if s18435.1 then (bindR (idx e18493 0) fun e18523 =>
  bindR (m_route_walk_from ((RouteWalk.mk p14276)) e18523) fun e18526 =>
  bindR (idx p14279 0) fun e18530 =>
  bindR (idx e18530 0) fun e18534 =>
  bindR (m_route_walk_from ((RouteWalk.mk p14276)) e18534) fun e18537 =>
  j18520 (decide (e18526 = e18537)))
  else (j18520 false)))
  else (.ok (s18000.1, s18435.1, 0))
def m_route_Tree_l2 (e17504 : (List Int)) (p14276 : ApiTopo) (p14279 : (List (List Int))) (rec18271 : ((List Int) × Bool × (List Int) × Int) → R ((List Int) × Bool × Int)) (s18000 : (List Int) × Bool × (List Int) × Int) : R ((List Int) × Bool × Int) :=
  if (decide (s18000.2.2.2 < (e17504.length : Int))) then (bindR (idx s18000.1 s18000.2.2.2) fun e18277 =>
  sh (fun (s18298 : Bool) => (bindR (m_topo_To p14276 e18277) fun e18305 =>
  bindR (must (okLen (s18000.2.2.1.length + ([e18305.1]).length))) fun _ =>
  rec18271 (s18000.1, s18298, (s18000.2.2.1 ++ ([e18305.1])), (w64 (s18000.2.2.2 + 1))))) fun j18312 =>
  (if s18000.2.1 then (bindR (m_topo_To p14276 e18277) fun e18319 =>
  bindR (m_slices_Contains_int_int (s18000.2.2.1) (e18319.1)) fun e18327 =>
  j18312 (!e18327))
  else (j18312 false)))
  else (loopM (m_route_Tree_l1 p14276 p14279 s18000) LL (s18000.2.1, 0))
def m_route_Tree_l3 (p14276 : ApiTopo) (p14279 : (List (List Int))) (rec17480 : ((List Int) × Int) → R ((List Int) × Bool × Int)) (s16419 : (List Int) × Int) : R ((List Int) × Bool × Int) :=
  if (decide (s16419.2 < (p14279.length : Int))) then (bindR (idx p14279 s16419.2) fun e17486 =>
  bindR (m_route_walk_valid ((RouteWalk.mk p14276)) e17486) fun e17490 =>
  if (!e17490) then (.ok ([], false, 310))
  else (bindR (must (okLen (s16419.1.length + e17486.length))) fun _ =>
  rec17480 ((s16419.1 ++ e17486), (w64 (s16419.2 + 1)))))
  else (bindR (m_sort (s16419.1)) fun e17496 =>
  bindR (m_compact e17496) fun e17504 =>
  loopM (m_route_Tree_l2 e17504 p14276 p14279) LL (e17504, true, [], 0))
def m_route_Tree (p14276 : ApiTopo) (p14279 : (List (List Int))) : R ((List Int) × Bool × Int) :=
  bindR (m_topo_Check p14276) fun e14285 =>
  if (decide (e14285 ≠ 0)) then (.ok ([], false, e14285))
  else (loopM (m_route_Tree_l3 p14276 p14279) LL ([], 0))

/-! slices.Equal[[]int,int] -/
def m_slices_Equal_int_int_l1 (p18584 : (List Int)) (p18586 : (List Int)) (rec18622 : Int → R Bool) (s18611 : Int) : R Bool :=
  if (decide (s18611 < (p18584.length : Int))) then (bindR (idx p18584 s18611) fun e18628 =>
  bindR (idx p18586 s18611) fun e18631 =>
  if (decide (e18628 ≠ e18631)) then (.ok false)
  else (rec18622 (w64 (s18611 + 1))))
  else (.ok true)
def m_slices_Equal_int_int (p18584 : (List Int)) (p18586 : (List Int)) : R Bool :=
  if (decide ((p18584.length : Int) ≠ (p18586.length : Int))) then (.ok false)
  else (loopM (m_slices_Equal_int_int_l1 p18584 p18586) LL 0)

/-! slices.Equal[isochron/api.Route,int] -/
def m_slices_Equal_api_Route_int_l1 (p18670 : (List Int)) (p18672 : (List Int)) (rec18708 : Int → R Bool) (s18697 : Int) : R Bool :=
  if (decide (s18697 < (p18670.length : Int))) then (bindR (idx p18670 s18697) fun e18714 =>
  bindR (idx p18672 s18697) fun e18717 =>
  if (decide (e18714 ≠ e18717)) then (.ok false)
  else (rec18708 (w64 (s18697 + 1))))
  else (.ok true)
def m_slices_Equal_api_Route_int (p18670 : (List Int)) (p18672 : (List Int)) : R Bool :=
  if (decide ((p18670.length : Int) ≠ (p18672.length : Int))) then (.ok false)
  else (loopM (m_slices_Equal_api_Route_int_l1 p18670 p18672) LL 0)

/-! isochron/isochronlaw21.wakes -/
def m_isochronlaw21_wakes : R Bool :=
  bindR (m_isochronlaw21_line) fun e36 =>
  bindR (m_route_Nodes e36 ([0, 2, 4])) fun e7903 =>
  bindR (m_route_Ends e36 ([2, 4])) fun e7943 =>
  bindR (m_route_Delay e36 ([0, 2, 4])) fun e8050 =>
  bindR (m_route_Time e36 ([0, 2, 4]) 100) fun e8170 =>
  bindR (m_route_Back e36 ([0, 2, 4])) fun e8434 =>
  bindR (m_route_Apart e36 ([0]) ([2, 4])) fun e9981 =>
  bindR (m_route_Tree e36 ([[0, 2], [0, 2, 4]])) fun e18547 =>
  sh ((decide (e7903.2 = 0)) && (decide (e7943.2.2 = 0))) fun (s18557 : Bool) =>
  (sh (s18557 && (decide (e8050.2 = 0))) fun (s18561 : Bool) =>
  (sh (s18561 && (decide (e8170.2 = 0))) fun (s18565 : Bool) =>
  (sh (s18565 && (decide (e8434.2 = 0))) fun (s18569 : Bool) =>
  (sh (s18569 && (decide (e9981.2 = 0))) fun (s18573 : Bool) =>
  (sh (s18573 && (decide (e18547.2.2 = 0))) fun (s18577 : Bool) =>
  (sh (fun (s18647 : Bool) => (sh (s18647 && (decide (e7943.1 = 1))) fun (s18651 : Bool) =>
  (sh (s18651 && (decide (e7943.2.1 = 3))) fun (s18655 : Bool) =>
  (sh (s18655 && (decide (e8050.1 = 57))) fun (s18659 : Bool) =>
  (sh (s18659 && (decide (e8170.1 = 9657))) fun (s18663 : Bool) =>
  (sh (fun (s18733 : Bool) => (sh (s18733 && e9981.1) fun (s18737 : Bool) =>
  (sh (fun (s18756 : Bool) => (sh (s18756 && e18547.2.1) fun (s18760 : Bool) =>
  (sh (fun (s18775 : Bool) => (.ok s18775)) fun j18778 =>
  (if s18760 then (bindR (m_route_Check e36 ([0, 4])) fun e18787 =>
  j18778 (decide (e18787 = 310)))
  else (j18778 false))))) fun j18794 =>
  (if s18737 then (bindR (m_slices_Equal_int_int (e18547.1) ([0, 2, 4])) fun e18807 =>
  j18794 e18807)
  else (j18794 false))))) fun j18814 =>
  (if s18663 then (bindR (m_slices_Equal_api_Route_int (e8434.1) ([5, 3, 1])) fun e18827 =>
  j18814 e18827)
  else (j18814 false)))))))) fun j18843 =>
  (if s18577 then (bindR (m_slices_Equal_int_int (e7903.1) ([0, 1, 2, 3])) fun e18856 =>
  j18843 e18856)
  else (j18843 false))))))))

/-! isochron/isochronref16.pick -/
def m_isochronref16_pick (p18939 : (List Int)) (p18941 : Int) : R Int :=
  if (decide (p18941 < (p18939.length : Int))) then (bindR (idx p18939 p18941) fun e18943 =>
  .ok ((w64 e18943)))
  else (.ok 0)

/-! isochron/isochronref16.node -/
def m_isochronref16_node (p18975 : ApiTopo) (p18978 : Int) : R Bool :=
  sh ((decide (0 ≤ p18978)) && (decide (p18978 < p18975.Nodes))) fun (s18984 : Bool) =>
  (.ok s18984)

/-! isochron/isochronref16.link -/
def m_isochronref16_link (p18963 : ApiTopo) (p18966 : ApiLink) : R Bool :=
  bindR (m_isochronref16_node p18963 (p18966.A)) fun e18990 =>
  sh (fun (s19000 : Bool) => (sh (s19000 || (decide (p18966.A = p18966.B))) fun (s19004 : Bool) =>
  (sh (fun (s19016 : Bool) => (if s19016 then (.ok false)
  else (sh ((decide (1 ≤ p18966.Per)) && (decide (p18966.Per ≤ 1000))) fun (s19021 : Bool) =>
  (sh (s19021 && (decide (0 ≤ p18966.Delay))) fun (s19025 : Bool) =>
  (sh (s19025 && (decide (p18966.Delay ≤ 10000))) fun (s19029 : Bool) =>
  (.ok s19029)))))) fun j19041 =>
  (if s19004 then (j19041 true)
  else (bindR (idx p18963.Station p18966.A) fun e19044 =>
  if e19044 then (bindR (idx p18963.Station p18966.B) fun e19048 =>
  j19041 e19048)
  else (j19041 false)))))) fun j19054 =>
  (if (!e18990) then (j19054 true)
  else (bindR (m_isochronref16_node p18963 (p18966.B)) fun e19057 =>
  j19054 (!e19057)))

/-! isochron/isochronref16.Joins -/
def m_isochronref16_Joins (p19078 : ApiLink) (p19079 : Int) (p19080 : Int) : R Bool :=
  sh ((decide (p19078.A = p19079)) && (decide (p19078.B = p19080))) fun (s19086 : Bool) =>
  (sh (s19086 || ((decide (p19078.A = p19080)) && (decide (p19078.B = p19079)))) fun (s19090 : Bool) =>
  (.ok s19090))

/-! (isochron/isochronref16.Draft).with -/
def m_isochronref16_Draft_with_l1 (e19295 : Int) (e19299 : Int) (p19270 : ApiTopo) (p19277 : Int) (p19278 : Int) (rec19387 : (Int × (List ApiLink)) → R ApiTopo) (s19365 : Int × (List ApiLink)) : R ApiTopo :=
  if (decide (s19365.1 < (p19270.Links.length : Int))) then (bindR (idx s19365.2 s19365.1) fun e19393 =>
  bindR (m_isochronref16_Joins e19393 p19277 p19278) fun e19396 =>
  if e19396 then (.ok ((ApiTopo.mk p19270.Nodes p19270.Station s19365.2)))
  else (rec19387 ((w64 (s19365.1 + 1)), s19365.2)))
  else (bindR (must (okLen (s19365.2.length + ([(ApiLink.mk p19277 p19278 (w64 (1 + (Int.tmod e19295 20))) (Int.tmod e19299 50))]).length))) fun _ =>
  .ok ((ApiTopo.mk p19270.Nodes p19270.Station (s19365.2 ++ ([(ApiLink.mk p19277 p19278 (w64 (1 + (Int.tmod e19295 20))) (Int.tmod e19299 50))])))))
def m_isochronref16_Draft_with (p19265 : Isochronref16Draft) (p19270 : ApiTopo) (p19277 : Int) (p19278 : Int) : R ApiTopo :=
  bindR (m_isochronref16_pick (p19265.Pers) ((p19270.Links.length : Int))) fun e19295 =>
  bindR (m_isochronref16_pick (p19265.Delays) ((p19270.Links.length : Int))) fun e19299 =>
  sh (fun (s19316 : Bool) => (if s19316 then (.ok p19270)
  else (loopM (m_isochronref16_Draft_with_l1 e19295 e19299 p19270 p19277 p19278) LL (0, p19270.Links)))) fun j19410 =>
  (if (decide ((p19270.Links.length : Int) = 24)) then (j19410 true)
  else (bindR (m_isochronref16_link p19270 ((ApiLink.mk p19277 p19278 (w64 (1 + (Int.tmod e19295 20))) (Int.tmod e19299 50)))) fun e19417 =>
  j19410 (!e19417)))

/-! (isochron/isochronref16.Draft).Topo -/
def m_isochronref16_Draft_Topo_l1 (p90275 : Isochronref16Draft) (rec161109 : (Int × Int × (List Bool) × (List ApiLink)) → R ApiTopo) (s161070 : Int × Int × (List Bool) × (List ApiLink)) : R ApiTopo :=
  sh ((decide ((w64 (s161070.1 + 1)) < (p90275.Chords.length : Int))) && (decide (s161070.1 < 12))) fun (s161115 : Bool) =>
  (if s161115 then (bindR (idx p90275.Chords s161070.1) fun e161119 =>
  bindR (must (decide ((w64 (1 + (w64 (Int.tmod p90275.Bridges 6)))) ≠ 0))) fun _ =>
  bindR (idx p90275.Chords (w64 (s161070.1 + 1))) fun e161123 =>
  bindR (must (decide ((w64 (1 + (w64 (Int.tmod p90275.Bridges 6)))) ≠ 0))) fun _ =>
  bindR (m_isochronref16_Draft_with p90275 ((ApiTopo.mk s161070.2.1 s161070.2.2.1 s161070.2.2.2)) ((Int.tmod (w64 e161119) (w64 (1 + (w64 (Int.tmod p90275.Bridges 6)))))) ((Int.tmod (w64 e161123) (w64 (1 + (w64 (Int.tmod p90275.Bridges 6))))))) fun e161127 =>
  rec161109 ((w64 (s161070.1 + 2)), e161127.Nodes, e161127.Station, e161127.Links))
  else (.ok ((ApiTopo.mk s161070.2.1 s161070.2.2.1 s161070.2.2.2))))
def m_isochronref16_Draft_Topo_l2 (p90275 : Isochronref16Draft) (rec160940 : (Int × Int × (List Bool) × (List ApiLink)) → R ApiTopo) (s160732 : Int × Int × (List Bool) × (List ApiLink)) : R ApiTopo :=
  if (decide (s160732.1 < (w64 (2 + (w64 (Int.tmod p90275.Stations 5)))))) then (bindR (m_isochronref16_pick (p90275.Homes) ((w64 ((w64 (2 * s160732.1)) + 1)))) fun e160946 =>
  sh (fun (s160969 : Int × (List Bool) × (List ApiLink)) => (rec160940 ((w64 (s160732.1 + 1)), s160969.1, s160969.2.1, s160969.2.2))) fun j160977 =>
  (if (decide (0 < (Int.tmod e160946 3))) then (bindR (m_isochronref16_pick (p90275.Homes) ((w64 ((w64 (2 * s160732.1)) + 1)))) fun e160979 =>
  bindR (must (decide ((w64 (1 + (w64 (Int.tmod p90275.Bridges 6)))) ≠ 0))) fun _ =>
  bindR (m_isochronref16_Draft_with p90275 ((ApiTopo.mk s160732.2.1 s160732.2.2.1 s160732.2.2.2)) ((w64 ((w64 (1 + (w64 (Int.tmod p90275.Bridges 6)))) + s160732.1))) ((Int.tmod e160979 (w64 (1 + (w64 (Int.tmod p90275.Bridges 6))))))) fun e160984 =>
  j160977 (e160984.Nodes, e160984.Station, e160984.Links))
  else (j160977 (s160732.2.1, s160732.2.2.1, s160732.2.2.2))))
  else (loopM (m_isochronref16_Draft_Topo_l1 p90275) LL (0, s160732.2.1, s160732.2.2.1, s160732.2.2.2))
def m_isochronref16_Draft_Topo_l3 (p90275 : Isochronref16Draft) (rec160270 : (Int × Int × (List Bool) × (List ApiLink)) → R ApiTopo) (s159377 : Int × Int × (List Bool) × (List ApiLink)) : R ApiTopo :=
  if (decide (s159377.1 < (w64 (2 + (w64 (Int.tmod p90275.Stations 5)))))) then (bindR (m_isochronref16_pick (p90275.Homes) ((w64 (2 * s159377.1)))) fun e160276 =>
  bindR (must (decide ((w64 (1 + (w64 (Int.tmod p90275.Bridges 6)))) ≠ 0))) fun _ =>
  bindR (m_isochronref16_Draft_with p90275 ((ApiTopo.mk s159377.2.1 s159377.2.2.1 s159377.2.2.2)) ((w64 ((w64 (1 + (w64 (Int.tmod p90275.Bridges 6)))) + s159377.1))) ((Int.tmod e160276 (w64 (1 + (w64 (Int.tmod p90275.Bridges 6))))))) fun e160281 =>
  rec160270 ((w64 (s159377.1 + 1)), e160281.Nodes, e160281.Station, e160281.Links))
  else (sh ((decide (2 < (w64 (1 + (w64 (Int.tmod p90275.Bridges 6)))))) && (decide ((Int.tmod p90275.Bridges 2) = 0))) fun (s160295 : Bool) =>
  (sh (fun (s160311 : Int × (List Bool) × (List ApiLink)) => (loopM (m_isochronref16_Draft_Topo_l2 p90275) LL (0, s160311.1, s160311.2.1, s160311.2.2))) fun j160319 =>
  (if s160295 then (bindR (m_isochronref16_Draft_with p90275 ((ApiTopo.mk s159377.2.1 s159377.2.2.1 s159377.2.2.2)) ((w64 ((w64 (1 + (w64 (Int.tmod p90275.Bridges 6)))) - 1))) 0) fun e161145 =>
  j160319 (e161145.Nodes, e161145.Station, e161145.Links))
  else (j160319 (s159377.2.1, s159377.2.2.1, s159377.2.2.2)))))
def m_isochronref16_Draft_Topo_l4 (p90275 : Isochronref16Draft) (rec157578 : (Int × Int × (List Bool) × (List ApiLink)) → R ApiTopo) (s153993 : Int × Int × (List Bool) × (List ApiLink)) : R ApiTopo :=
  if (decide (s153993.1 < (w64 (1 + (w64 (Int.tmod p90275.Bridges 6)))))) then (bindR (m_isochronref16_Draft_with p90275 ((ApiTopo.mk s153993.2.1 s153993.2.2.1 s153993.2.2.2)) ((w64 (s153993.1 - 1))) (s153993.1)) fun e157584 =>
  rec157578 ((w64 (s153993.1 + 1)), e157584.Nodes, e157584.Station, e157584.Links))
  else (loopM (m_isochronref16_Draft_Topo_l3 p90275) LL (0, s153993.2.1, s153993.2.2.1, s153993.2.2.2))
def m_isochronref16_Draft_Topo_l5 (p90275 : Isochronref16Draft) (rec142319 : (Int × (List Bool)) → R ApiTopo) (s123478 : Int × (List Bool)) : R ApiTopo :=
  if (decide (s123478.1 < (w64 ((w64 (1 + (w64 (Int.tmod p90275.Bridges 6)))) + (w64 (2 + (w64 (Int.tmod p90275.Stations 5)))))))) then (bindR (must (okLen (s123478.2.length + ([(decide ((w64 (1 + (w64 (Int.tmod p90275.Bridges 6)))) ≤ s123478.1))]).length))) fun _ =>
  rec142319 ((w64 (s123478.1 + 1)), (s123478.2 ++ ([(decide ((w64 (1 + (w64 (Int.tmod p90275.Bridges 6)))) ≤ s123478.1))]))))
  else (loopM (m_isochronref16_Draft_Topo_l4 p90275) LL (1, (w64 ((w64 (1 + (w64 (Int.tmod p90275.Bridges 6)))) + (w64 (2 + (w64 (Int.tmod p90275.Stations 5)))))), s123478.2, []))
def m_isochronref16_Draft_Topo (p90275 : Isochronref16Draft) : R ApiTopo :=
  loopM (m_isochronref16_Draft_Topo_l5 p90275) LL (0, [])

/-! isochron/isochronref16.From -/
def m_isochronref16_From (p161206 : ApiTopo) (p161209 : Int) : R Int :=
  bindR (idx p161206.Links (w64 (Int.tdiv p161209 2))) fun e161214 =>
  if (decide ((Int.tmod p161209 2) = 1)) then (.ok (e161214.B))
  else (.ok (e161214.A))

/-! isochron/isochronref16.Ports -/
def m_isochronref16_Ports_l1 (p161315 : ApiTopo) (p161318 : Int) (rec161395 : ((List Int) × Int) → R (List Int)) (s161372 : (List Int) × Int) : R (List Int) :=
  if (decide (s161372.2 < (w64 (2 * (p161315.Links.length : Int))))) then (bindR (m_isochronref16_From p161315 (s161372.2)) fun e161401 =>
  sh (fun (s161409 : (List Int)) => (rec161395 (s161409, (w64 (s161372.2 + 1))))) fun j161413 =>
  (if (decide (e161401 = p161318)) then (bindR (must (okLen (s161372.1.length + ([s161372.2]).length))) fun _ =>
  j161413 (s161372.1 ++ ([s161372.2])))
  else (j161413 s161372.1)))
  else (.ok (s161372.1))
def m_isochronref16_Ports (p161315 : ApiTopo) (p161318 : Int) : R (List Int) :=
  loopM (m_isochronref16_Ports_l1 p161315 p161318) LL ([], 0)

/-! isochron/isochronref16.To -/
def m_isochronref16_To (p161433 : ApiTopo) (p161436 : Int) : R Int :=
  bindR (idx p161433.Links (w64 (Int.tdiv p161436 2))) fun e161441 =>
  if (decide ((Int.tmod p161436 2) = 1)) then (.ok (e161441.A))
  else (.ok (e161441.B))

/-! isochron/isochronref16.In -/
def m_isochronref16_In_l1 (p161451 : (List Int)) (p161453 : Int) (rec161478 : Int → R Bool) (s161470 : Int) : R Bool :=
  if (decide (s161470 < (p161451.length : Int))) then (bindR (idx p161451 s161470) fun e161484 =>
  if (decide (e161484 = p161453)) then (.ok true)
  else (rec161478 (w64 (s161470 + 1))))
  else (.ok false)
def m_isochronref16_In (p161451 : (List Int)) (p161453 : Int) : R Bool :=
  loopM (m_isochronref16_In_l1 p161451 p161453) LL 0

/-! isochron/isochronref21.Some -/
def m_isochronref21_Some_l1 (p162429 : ApiTopo) (p162433 : Int) (rec163157 : (Int × (List Int) × (List Int)) → R (List Int)) (s162913 : Int × (List Int) × (List Int)) (rec163336 : ((List Int) × (List Int) × Int) → R (List Int)) (s163280 : (List Int) × (List Int) × Int) : R (List Int) :=
  if (decide (s163280.2.2 < (s163280.2.1.length : Int))) then (bindR (idx s163280.2.1 s163280.2.2) fun e163342 =>
  bindR (m_isochronref16_To p162429 e163342) fun e163345 =>
  bindR (m_isochronref16_In (s162913.2.1) e163345) fun e163353 =>
  sh (fun (s163364 : (List Int)) => (rec163336 (s163364, s163280.2.1, (w64 (s163280.2.2 + 1))))) fun j163368 =>
  (if (!e163353) then (bindR (idx s163280.2.1 s163280.2.2) fun e163370 =>
  bindR (must (okLen (s163280.1.length + ([e163370]).length))) fun _ =>
  j163368 (s163280.1 ++ ([e163370])))
  else (j163368 s163280.1)))
  else (if (decide ((s163280.1.length : Int) = 0)) then (.ok (s162913.2.2))
  else (bindR (must (decide ((s163280.1.length : Int) ≠ 0))) fun _ =>
  bindR (idx s163280.1 (Int.tmod (w64 ((w64 p162433) + (w64 (3 * (s162913.2.2.length : Int))))) (s163280.1.length : Int))) fun e163378 =>
  bindR (must (okLen (s162913.2.2.length + ([e163378]).length))) fun _ =>
  bindR (m_isochronref16_To p162429 e163378) fun e163384 =>
  bindR (must (okLen (s162913.2.1.length + ([e163384]).length))) fun _ =>
  rec163157 (e163384, (s162913.2.1 ++ ([e163384])), (s162913.2.2 ++ ([e163378])))))
def m_isochronref21_Some_l2 (p162429 : ApiTopo) (p162433 : Int) (rec163157 : (Int × (List Int) × (List Int)) → R (List Int)) (s162913 : Int × (List Int) × (List Int)) : R (List Int) :=
  sh (fun (s163168 : Bool) => (if s163168 then (bindR (m_isochronref16_Ports p162429 (s162913.1)) fun e163172 =>
  loopM (m_isochronref21_Some_l1 p162429 p162433 rec163157 s162913) LL ([], e163172, 0))
  else (.ok (s162913.2.2)))) fun j163391 =>
  (if (decide ((s162913.2.2.length : Int) < 8)) then (if (decide ((s162913.2.2.length : Int) = 0)) then (j163391 true)
  else (bindR (idx p162429.Station s162913.1) fun e163395 =>
  j163391 (!e163395)))
  else (j163391 false))
def m_isochronref21_Some (p162429 : ApiTopo) (p162432 : Int) (p162433 : Int) : R (List Int) :=
  bindR (must (decide (p162429.Nodes ≠ 0))) fun _ =>
  loopM (m_isochronref21_Some_l2 p162429 p162433) LL ((Int.tmod (w64 p162432) p162429.Nodes), [(Int.tmod (w64 p162432) p162429.Nodes)], [])

/-! slices.Reverse[[]int,int] -/
def m_slices_Reverse_int_int_l1 (rec163674 : ((List Int) × Int × Int) → R (List Int)) (s163651 : (List Int) × Int × Int) : R (List Int) :=
  if (decide (s163651.2.1 < s163651.2.2)) then (bindR (idx s163651.1 s163651.2.2) fun e163680 =>
  bindR (idx s163651.1 s163651.2.1) fun e163683 =>
  bindR (idx s163651.1 s163651.2.1) fun e163686 =>
  bindR (idx (s163651.1.set (s163651.2.1).toNat e163680) s163651.2.2) fun e163692 =>
  rec163674 (((s163651.1.set (s163651.2.1).toNat e163680).set (s163651.2.2).toNat e163683), (w64 (s163651.2.1 + 1)), (w64 (s163651.2.2 - 1))))
  else (.ok (s163651.1))
def m_slices_Reverse_int_int (p163600 : (List Int)) : R (List Int) :=
  loopM (m_slices_Reverse_int_int_l1) LL (p163600, 0, (w64 ((p163600.length : Int) - 1)))

/-! isochron/isochronlaw21.RouteTurns -/
def m_isochronlaw21_RouteTurns (p1 : Isochronref16Draft) (p6 : Int) (p7 : Int) : R Bool :=
  bindR (m_isochronlaw21_wakes) fun e18878 =>
  if (!e18878) then (.ok false)
  else (bindR (m_isochronref16_Draft_Topo p1) fun e161163 =>
  bindR (m_isochronref21_Some e161163 p6 p7) fun e163404 =>
  bindR (m_route_Back e161163 e163404) fun e163417 =>
  bindR (m_route_Back e161163 (e163417.1)) fun e163430 =>
  bindR (m_route_Nodes e161163 e163404) fun e163439 =>
  bindR (m_route_Nodes e161163 (e163417.1)) fun e163448 =>
  sh ((decide (e163417.2 ≠ 0)) || (decide (e163430.2 ≠ 0))) fun (s163458 : Bool) =>
  (sh (s163458 || (decide (e163439.2 ≠ 0))) fun (s163462 : Bool) =>
  (sh (s163462 || (decide (e163448.2 ≠ 0))) fun (s163466 : Bool) =>
  (sh (fun (s163479 : Bool) => (sh (s163479 || (decide ((e163439.1.length : Int) ≠ (w64 ((e163404.length : Int) + 1))))) fun (s163483 : Bool) =>
  (if s163483 then (.ok false)
  else (bindR (m_slices_Reverse_int_int (e163448.1)) fun e163699 =>
  bindR (m_route_Time e161163 e163404 84) fun e163707 =>
  bindR (m_route_Time e161163 (e163417.1) 84) fun e163711 =>
  bindR (m_route_Tree e161163 ([e163404])) fun e163721 =>
  bindR (m_slices_Equal_int_int (e163439.1) e163699) fun e163738 =>
  sh (e163738 && (decide (e163707.2 = 0))) fun (s163743 : Bool) =>
  (sh (s163743 && (decide (e163711.2 = 0))) fun (s163747 : Bool) =>
  (sh (s163747 && (decide (e163707.1 = e163711.1))) fun (s163751 : Bool) =>
  (sh (s163751 && (decide (e163721.2.2 = 0))) fun (s163755 : Bool) =>
  (sh (s163755 && e163721.2.1) fun (s163759 : Bool) =>
  (sh (s163759 && (decide ((e163721.1.length : Int) = (e163404.length : Int)))) fun (s163763 : Bool) =>
  (.ok s163763)))))))))) fun j163787 =>
  (if s163466 then (j163787 true)
  else (bindR (m_slices_Equal_api_Route_int (e163430.1) e163404) fun e163794 =>
  j163787 (!e163794)))))))
end Go.AM
