/- Printed: functions of the given program as functions over plain data, and that the machine does what they say; no claim of its own; no condition. -/
import Derived.Test.YtjemelnmlbcmeaaLfK
set_option maxRecDepth 100000
set_option maxHeartbeats 4000000
set_option linter.unusedVariables false
set_option linter.unusedSimpArgs false
namespace Go.AM
open Go

structure ApiLink where
  A : Int
  B : Int
  Per : Int
  Delay : Int
  deriving Inhabited
def eApiLink : Enc ApiLink := eMap (fun s => (s.A, s.B, s.Per, s.Delay, ())) (ePair (eInt .i64) (ePair (eInt .i64) (ePair (eInt .i64) (ePair (eInt .i64) eUnit))))
theorem eApiLink_el {φ : Fz} {cs : List Value} {x : ApiLink} (h : eApiLink.R φ cs x) : cs = [.int .i64 x.A, .int .i64 x.B, .int .i64 x.Per, .int .i64 x.Delay] := by
  obtain ⟨p1, r1, e1, g1, p2, r2, e2, g2, p3, r3, e3, g3, p4, r4, e4, g4, gl⟩ := h
  have gl : r4 = [] := gl
  have g1 : p1 = [.int .i64 x.A] := g1
  have g2 : p2 = [.int .i64 x.B] := g2
  have g3 : p3 = [.int .i64 x.Per] := g3
  have g4 : p4 = [.int .i64 x.Delay] := g4
  subst gl
  subst g1 g2 g3 g4
  subst e4
  subst e3
  subst e2
  subst e1
  exact rfl
structure ApiTopo where
  Nodes : Int
  Station : (List Bool)
  Links : (List ApiLink)
  deriving Inhabited
def eApiTopo : Enc ApiTopo := eMap (fun s => (s.Nodes, s.Station, s.Links, ())) (ePair (eInt .i64) (ePair (eSl eBool) (ePair (eSl eApiLink) eUnit)))
theorem eApiTopo_el {φ : Fz} {cs : List Value} {x : ApiTopo} (h : eApiTopo.R φ cs x) : ∃ a12923 n12923 c12923, ∃ a12924 n12924 c12924, cs = [.int .i64 x.Nodes, .slice a12923 n12923 c12923, .slice a12924 n12924 c12924] ∧ RSl eBool φ (.slice a12923 n12923 c12923) x.Station ∧ RSl eApiLink φ (.slice a12924 n12924 c12924) x.Links := by
  obtain ⟨p1, r1, e1, g1, p2, r2, e2, g2, p3, r3, e3, g3, gl⟩ := h
  have gl : r3 = [] := gl
  have g1 : p1 = [.int .i64 x.Nodes] := g1
  obtain ⟨a2, n2, c2, g2, R2⟩ := g2
  obtain ⟨a3, n3, c3, g3, R3⟩ := g3
  subst gl
  subst g1 g2 g3
  subst e3
  subst e2
  subst e1
  exact ⟨a2, n2, c2, a3, n3, c3, rfl, R2, R3⟩
structure TopoEnd where
  Link : ApiLink
  port : Int
  deriving Inhabited
def eTopoEnd : Enc TopoEnd := eMap (fun s => (s.Link, s.port, ())) (ePair eApiLink (ePair (eInt .i64) eUnit))
theorem eTopoEnd_el {φ : Fz} {cs : List Value} {x : TopoEnd} (h : eTopoEnd.R φ cs x) : cs = [.int .i64 x.Link.A, .int .i64 x.Link.B, .int .i64 x.Link.Per, .int .i64 x.Link.Delay, .int .i64 x.port] := by
  obtain ⟨p1, r1, e1, g1, p2, r2, e2, g2, gl⟩ := h
  have gl : r2 = [] := gl
  obtain g1 := eApiLink_el g1
  have g2 : p2 = [.int .i64 x.port] := g2
  subst gl
  subst g1 g2
  subst e2
  subst e1
  exact rfl


/-! isochron/isochronlaw16.line -/
def m_isochronlaw16_line : R ApiTopo :=
  .ok ((ApiTopo.mk 4 [true, false, false, true] [(ApiLink.mk 0 1 8 50), (ApiLink.mk 1 2 8 0), (ApiLink.mk 2 3 80 7)]))

/-! isochron/topo.isNode -/
def m_topo_isNode (p113 : ApiTopo) (p116 : Int) : R Bool :=
  sh ((decide (0 ≤ p116)) && (decide (p116 < p113.Nodes))) fun (s122 : Bool) =>
  (.ok s122)

/-! isochron/topo.validLink -/
def m_topo_validLink_l1 (e98 : ApiLink) (p86 : ApiTopo) (p89 : Int) (rec255 : Int → R Bool) (s227 : Int) : R Bool :=
  if (decide (s227 < ((p86.Links.take (p89).toNat).length : Int))) then (bindR (idx (p86.Links.take (p89).toNat) s227) fun e261 =>
  sh ((decide (e261.A = e98.A)) && (decide (e261.B = e98.B))) fun (s269 : Bool) =>
  (sh (s269 || ((decide (e261.A = e98.B)) && (decide (e261.B = e98.A)))) fun (s273 : Bool) =>
  (if s273 then (if (!(!(decide (0 ≤ s227)))) then (.ok false)
  else (.ok true))
  else (rec255 (w64 (s227 + 1))))))
  else (.ok true)
def m_topo_validLink (p86 : ApiTopo) (p89 : Int) : R Bool :=
  bindR (idx p86.Links p89) fun e98 =>
  bindR (m_topo_isNode p86 (e98.A)) fun e128 =>
  sh (fun (s138 : Bool) => (sh (s138 && (decide (e98.A ≠ e98.B))) fun (s142 : Bool) =>
  (if (!s142) then (.ok false)
  else (bindR (idx p86.Station e98.A) fun e146 =>
  sh (fun (s154 : Bool) => (if (!s154) then (.ok false)
  else (sh ((decide (1 ≤ e98.Per)) && (decide (e98.Per ≤ 1000))) fun (s159 : Bool) =>
  (sh (s159 && (decide (0 ≤ e98.Delay))) fun (s163 : Bool) =>
  (sh (s163 && (decide (e98.Delay ≤ 10000))) fun (s167 : Bool) =>
  (if (!s167) then (.ok false)
  else (bindR (must (decide (0 ≤ p89 ∧ p89 ≤ (p86.Links.length : Int)))) fun _ =>
  loopM (m_topo_validLink_l1 e98 p86 p89) LL 0))))))) fun j294 =>
  (if (!e146) then (j294 true)
  else (bindR (idx p86.Station e98.B) fun e297 =>
  j294 (!e297))))))) fun j303 =>
  (if e128 then (bindR (m_topo_isNode p86 (e98.B)) fun e306 =>
  j303 e306)
  else (j303 false))

/-! (isochron/topo.end).from -/
def m_topo_end_from (p376 : TopoEnd) : R Int :=
  if (decide ((Int.tmod p376.port 2) = 0)) then (.ok (p376.Link.A))
  else (.ok (p376.Link.B))

/-! isochron/topo.degree -/
def m_topo_degree_l1 (p324 : ApiTopo) (p327 : Int) (rec555 : (Int × Int) → R Int) (s490 : Int × Int) : R Int :=
  if (decide (s490.1 < (p324.Links.length : Int))) then (bindR (idx p324.Links s490.1) fun e561 =>
  bindR (m_topo_end_from ((TopoEnd.mk e561 (w64 (2 * s490.1))))) fun e579 =>
  sh (fun (s586 : Int) => (bindR (m_topo_end_from ((TopoEnd.mk e561 (w64 ((w64 (2 * s490.1)) + 1))))) fun e602 =>
  sh (fun (s609 : Int) => (rec555 ((w64 (s490.1 + 1)), s609))) fun j612 =>
  (if (decide (e602 = p327)) then (j612 (w64 (s586 + 1)))
  else (j612 s586)))) fun j589 =>
  (if (decide (e579 = p327)) then (j589 (w64 (s490.2 + 1)))
  else (j589 s490.2)))
  else (.ok (s490.2))
def m_topo_degree (p324 : ApiTopo) (p327 : Int) : R Int :=
  loopM (m_topo_degree_l1 p324 p327) LL (0, 0)

/-! (isochron/topo.end).to -/
def m_topo_end_to (p721 : TopoEnd) : R Int :=
  bindR (m_topo_end_from p721) fun e726 =>
  .ok ((w64 ((w64 (p721.Link.A + p721.Link.B)) - e726)))

/-! slices.Index[[]int,int] -/
def m_slices_Index_int_int_l1 (p745 : (List Int)) (p747 : Int) (rec772 : Int → R Int) (s764 : Int) : R Int :=
  if (decide (s764 < (p745.length : Int))) then (bindR (idx p745 s764) fun e778 =>
  if (decide (p747 = e778)) then (.ok s764)
  else (rec772 (w64 (s764 + 1))))
  else (.ok ((-1)))
def m_slices_Index_int_int (p745 : (List Int)) (p747 : Int) : R Int :=
  loopM (m_slices_Index_int_int_l1 p745 p747) LL 0

/-! slices.Contains[[]int,int] -/
def m_slices_Contains_int_int (p742 : (List Int)) (p744 : Int) : R Bool :=
  bindR (m_slices_Index_int_int p742 p744) fun e782 =>
  .ok ((decide (0 ≤ e782)))

/-! isochron/topo.reach -/
def m_topo_reach_l1 (p3318 : ApiTopo) (p3322 : (List Int)) (rec5287 : (List Bool) → R (List Bool)) (rec5777 : (Int × (List Bool)) → R (List Bool)) (s5619 : Int × (List Bool)) : R (List Bool) :=
  if (decide (s5619.1 < (p3318.Links.length : Int))) then (bindR (idx p3318.Links s5619.1) fun e5783 =>
  bindR (m_topo_end_from ((TopoEnd.mk e5783 (w64 (2 * s5619.1))))) fun e5801 =>
  bindR (idx s5619.2 e5801) fun e5805 =>
  sh (fun (s5817 : Bool) => (sh (fun (s5826 : Bool) => (if s5826 then (bindR (m_topo_end_to ((TopoEnd.mk e5783 (w64 (2 * s5619.1))))) fun e5830 =>
  bindR (idx s5619.2 e5830) fun e5834 =>
  rec5287 (s5619.2.set (e5830).toNat true))
  else (bindR (m_topo_end_from ((TopoEnd.mk e5783 (w64 ((w64 (2 * s5619.1)) + 1))))) fun e5855 =>
  bindR (idx s5619.2 e5855) fun e5859 =>
  sh (fun (s5871 : Bool) => (sh (fun (s5880 : Bool) => (if s5880 then (bindR (m_topo_end_to ((TopoEnd.mk e5783 (w64 ((w64 (2 * s5619.1)) + 1))))) fun e5884 =>
  bindR (idx s5619.2 e5884) fun e5888 =>
  rec5287 (s5619.2.set (e5884).toNat true))
  else (rec5777 ((w64 (s5619.1 + 1)), s5619.2)))) fun j5900 =>
  (if s5871 then (bindR (m_slices_Contains_int_int p3322 ((w64 (Int.tdiv (w64 ((w64 (2 * s5619.1)) + 1)) 2)))) fun e5903 =>
  j5900 (!e5903))
  else (j5900 false)))) fun j5907 =>
  (if e5859 then (bindR (m_topo_end_to ((TopoEnd.mk e5783 (w64 ((w64 (2 * s5619.1)) + 1))))) fun e5910 =>
  bindR (idx s5619.2 e5910) fun e5914 =>
  j5907 (!e5914))
  else (j5907 false))))) fun j5917 =>
  (if s5817 then (bindR (m_slices_Contains_int_int p3322 ((w64 (Int.tdiv (w64 (2 * s5619.1)) 2)))) fun e5920 =>
  j5917 (!e5920))
  else (j5917 false)))) fun j5924 =>
  (if e5805 then (bindR (m_topo_end_to ((TopoEnd.mk e5783 (w64 (2 * s5619.1))))) fun e5927 =>
  bindR (idx s5619.2 e5927) fun e5931 =>
  j5924 (!e5931))
  else (j5924 false)))
  else (.ok (s5619.2))
def m_topo_reach_l2 (p3318 : ApiTopo) (p3322 : (List Int)) (rec5287 : (List Bool) → R (List Bool)) (s4639 : (List Bool)) : R (List Bool) :=
  loopM (m_topo_reach_l1 p3318 p3322 rec5287) LL (0, s4639)
def m_topo_reach (p3318 : ApiTopo) (p3321 : Int) (p3322 : (List Int)) : R (List Bool) :=
  bindR (must (decide (0 ≤ p3318.Nodes ∧ p3318.Nodes ≤ 1000000000))) fun _ =>
  bindR (idx (List.replicate (p3318.Nodes).toNat false) p3321) fun e3340 =>
  loopM (m_topo_reach_l2 p3318 p3322) LL ((List.replicate (p3318.Nodes).toNat false).set (p3321).toNat true)

/-! slices.Index[[]bool,bool] -/
def m_slices_Index_bool_bool_l1 (p5950 : (List Bool)) (p5952 : Bool) (rec5977 : Int → R Int) (s5969 : Int) : R Int :=
  if (decide (s5969 < (p5950.length : Int))) then (bindR (idx p5950 s5969) fun e5983 =>
  if (p5952 == e5983) then (.ok s5969)
  else (rec5977 (w64 (s5969 + 1))))
  else (.ok ((-1)))
def m_slices_Index_bool_bool (p5950 : (List Bool)) (p5952 : Bool) : R Int :=
  loopM (m_slices_Index_bool_bool_l1 p5950 p5952) LL 0

/-! slices.Contains[[]bool,bool] -/
def m_slices_Contains_bool_bool (p5947 : (List Bool)) (p5949 : Bool) : R Bool :=
  bindR (m_slices_Index_bool_bool p5947 p5949) fun e5987 =>
  .ok ((decide (0 ≤ e5987)))

/-! isochron/topo.Check -/
def m_topo_Check_l1 (p62 : ApiTopo) (rec6763 : Int → R Int) (s6711 : Int) : R Int :=
  if (decide (s6711 < (p62.Station.length : Int))) then (bindR (idx p62.Station s6711) fun e6769 =>
  sh (fun (s6783 : Bool) => (if s6783 then (.ok 260)
  else (rec6763 (w64 (s6711 + 1))))) fun j6787 =>
  (if e6769 then (bindR (m_topo_degree p62 s6711) fun e6790 =>
  if (decide (e6790 < 1)) then (j6787 true)
  else (bindR (m_topo_degree p62 s6711) fun e6795 =>
  j6787 (decide (2 < e6795))))
  else (j6787 false)))
  else (bindR (m_topo_reach p62 0 ([])) fun e6799 =>
  bindR (m_slices_Contains_bool_bool e6799 false) fun e6812 =>
  if e6812 then (.ok 260)
  else (.ok 0))
def m_topo_Check_l2 (p62 : ApiTopo) (rec6596 : Int → R Int) (s6377 : Int) : R Int :=
  if (decide (s6377 < (p62.Links.length : Int))) then (bindR (m_topo_validLink p62 s6377) fun e6602 =>
  if (!e6602) then (.ok 260)
  else (rec6596 (w64 (s6377 + 1))))
  else (loopM (m_topo_Check_l1 p62) LL 0)
def m_topo_Check (p62 : ApiTopo) : R Int :=
  sh ((decide (p62.Nodes < 2)) || (decide (12 < p62.Nodes))) fun (s70 : Bool) =>
  (sh (s70 || (decide ((p62.Station.length : Int) ≠ p62.Nodes))) fun (s74 : Bool) =>
  (sh (s74 || (decide (24 < (p62.Links.length : Int)))) fun (s78 : Bool) =>
  (if s78 then (.ok 260)
  else (loopM (m_topo_Check_l2 p62) LL 0))))

/-! isochron/topo.From -/
def m_topo_From (p50 : ApiTopo) (p53 : Int) : R (Int × Int) :=
  bindR (m_topo_Check p50) fun e6826 =>
  if (decide (e6826 ≠ 0)) then (.ok (0, e6826))
  else (sh ((decide (p53 < 0)) || (decide ((w64 (2 * (p50.Links.length : Int))) ≤ p53))) fun (s6832 : Bool) =>
  (if s6832 then (.ok (0, 2))
  else (bindR (idx p50.Links (w64 (Int.tdiv p53 2))) fun e6836 =>
  bindR (m_topo_end_from ((TopoEnd.mk e6836 p53))) fun e6839 =>
  .ok (e6839, 0))))

/-! isochron/topo.To -/
def m_topo_To (p6858 : ApiTopo) (p6861 : Int) : R (Int × Int) :=
  bindR (m_topo_Check p6858) fun e6870 =>
  if (decide (e6870 ≠ 0)) then (.ok (0, e6870))
  else (sh ((decide (p6861 < 0)) || (decide ((w64 (2 * (p6858.Links.length : Int))) ≤ p6861))) fun (s6876 : Bool) =>
  (if s6876 then (.ok (0, 2))
  else (bindR (idx p6858.Links (w64 (Int.tdiv p6861 2))) fun e6880 =>
  bindR (m_topo_end_to ((TopoEnd.mk e6880 p6861))) fun e6883 =>
  .ok (e6883, 0))))

/-! (isochron/topo.end).per -/
def m_topo_end_per (p6927 : TopoEnd) : R Int :=
  .ok (p6927.Link.Per)

/-! isochron/topo.Per -/
def m_topo_Per (p6902 : ApiTopo) (p6905 : Int) : R (Int × Int) :=
  bindR (m_topo_Check p6902) fun e6914 =>
  if (decide (e6914 ≠ 0)) then (.ok (0, e6914))
  else (sh ((decide (p6905 < 0)) || (decide ((w64 (2 * (p6902.Links.length : Int))) ≤ p6905))) fun (s6920 : Bool) =>
  (if s6920 then (.ok (0, 2))
  else (bindR (idx p6902.Links (w64 (Int.tdiv p6905 2))) fun e6924 =>
  bindR (m_topo_end_per ((TopoEnd.mk e6924 p6905))) fun e6932 =>
  .ok (e6932, 0))))

/-! (isochron/topo.end).delay -/
def m_topo_end_delay (p6976 : TopoEnd) : R Int :=
  .ok (p6976.Link.Delay)

/-! isochron/topo.Delay -/
def m_topo_Delay (p6951 : ApiTopo) (p6954 : Int) : R (Int × Int) :=
  bindR (m_topo_Check p6951) fun e6963 =>
  if (decide (e6963 ≠ 0)) then (.ok (0, e6963))
  else (sh ((decide (p6954 < 0)) || (decide ((w64 (2 * (p6951.Links.length : Int))) ≤ p6954))) fun (s6969 : Bool) =>
  (if s6969 then (.ok (0, 2))
  else (bindR (idx p6951.Links (w64 (Int.tdiv p6954 2))) fun e6973 =>
  bindR (m_topo_end_delay ((TopoEnd.mk e6973 p6954))) fun e6981 =>
  .ok (e6981, 0))))

/-! isochron/topo.Ports -/
def m_topo_Ports_l1 (p7365 : ApiTopo) (p7368 : Int) (rec7649 : (Int × (List Int)) → R ((List Int) × Int)) (s7568 : Int × (List Int)) : R ((List Int) × Int) :=
  if (decide (s7568.1 < (p7365.Links.length : Int))) then (bindR (idx p7365.Links s7568.1) fun e7655 =>
  bindR (m_topo_end_from ((TopoEnd.mk e7655 (w64 (2 * s7568.1))))) fun e7673 =>
  sh (fun (s7683 : (List Int)) => (bindR (m_topo_end_from ((TopoEnd.mk e7655 (w64 ((w64 (2 * s7568.1)) + 1))))) fun e7700 =>
  sh (fun (s7710 : (List Int)) => (rec7649 ((w64 (s7568.1 + 1)), s7710))) fun j7714 =>
  (if (decide (e7700 = p7368)) then (bindR (must (okLen (s7683.length + ([(w64 ((w64 (2 * s7568.1)) + 1))]).length))) fun _ =>
  j7714 (s7683 ++ ([(w64 ((w64 (2 * s7568.1)) + 1))])))
  else (j7714 s7683)))) fun j7687 =>
  (if (decide (e7673 = p7368)) then (bindR (must (okLen (s7568.2.length + ([(w64 (2 * s7568.1))]).length))) fun _ =>
  j7687 (s7568.2 ++ ([(w64 (2 * s7568.1))])))
  else (j7687 s7568.2)))
  else (.ok (s7568.2, 0))
def m_topo_Ports (p7365 : ApiTopo) (p7368 : Int) : R ((List Int) × Int) :=
  bindR (m_topo_Check p7365) fun e7377 =>
  if (decide (e7377 ≠ 0)) then (.ok ([], e7377))
  else (bindR (m_topo_isNode p7365 p7368) fun e7382 =>
  if (!e7382) then (.ok ([], 2))
  else (loopM (m_topo_Ports_l1 p7365 p7368) LL (0, [])))

/-! isochron/topo.Find -/
def m_topo_Find_l1 (p7749 : ApiTopo) (p7752 : Int) (p7753 : Int) (rec8110 : Int → R (Int × Int)) (s8011 : Int) : R (Int × Int) :=
  if (decide (s8011 < (p7749.Links.length : Int))) then (bindR (idx p7749.Links s8011) fun e8116 =>
  bindR (m_topo_end_from ((TopoEnd.mk e8116 (w64 (2 * s8011))))) fun e8134 =>
  sh (fun (s8144 : Bool) => (if s8144 then (.ok ((w64 (2 * s8011)), 0))
  else (bindR (m_topo_end_from ((TopoEnd.mk e8116 (w64 ((w64 (2 * s8011)) + 1))))) fun e8167 =>
  sh (fun (s8177 : Bool) => (if s8177 then (.ok ((w64 ((w64 (2 * s8011)) + 1)), 0))
  else (rec8110 (w64 (s8011 + 1))))) fun j8191 =>
  (if (decide (e8167 = p7752)) then (bindR (m_topo_end_to ((TopoEnd.mk e8116 (w64 ((w64 (2 * s8011)) + 1))))) fun e8194 =>
  j8191 (decide (e8194 = p7753)))
  else (j8191 false))))) fun j8198 =>
  (if (decide (e8134 = p7752)) then (bindR (m_topo_end_to ((TopoEnd.mk e8116 (w64 (2 * s8011))))) fun e8201 =>
  j8198 (decide (e8201 = p7753)))
  else (j8198 false)))
  else (.ok (0, 4))
def m_topo_Find (p7749 : ApiTopo) (p7752 : Int) (p7753 : Int) : R (Int × Int) :=
  bindR (m_topo_Check p7749) fun e7774 =>
  if (decide (e7774 ≠ 0)) then (.ok (0, e7774))
  else (bindR (m_topo_isNode p7749 p7752) fun e7783 =>
  sh (fun (s7793 : Bool) => (if s7793 then (.ok (0, 2))
  else (loopM (m_topo_Find_l1 p7749 p7752 p7753) LL 0))) fun j8211 =>
  (if (!e7783) then (j8211 true)
  else (bindR (m_topo_isNode p7749 p7753) fun e8214 =>
  j8211 (!e8214))))

/-! isochron/topo.Reach -/
def m_topo_Reach_l1 (j8481 : Bool → R ((List Bool) × Int)) (p8385 : ApiTopo) (p8389 : (List Int)) (rec8529 : Int → R ((List Bool) × Int)) (s8514 : Int) : R ((List Bool) × Int) :=
  if (decide (s8514 < (p8389.length : Int))) then (bindR (idx p8389 s8514) fun e8535 =>
  sh ((decide (e8535 < 0)) || (decide ((p8385.Links.length : Int) ≤ e8535))) fun (s8539 : Bool) =>
  (if s8539 then (j8481 (decide (0 ≤ s8514)))
  else (rec8529 (w64 (s8514 + 1)))))
  else (j8481 false)
def m_topo_Reach (p8385 : ApiTopo) (p8388 : Int) (p8389 : (List Int)) : R ((List Bool) × Int) :=
  bindR (m_topo_Check p8385) fun e8395 =>
  if (decide (e8395 ≠ 0)) then (.ok ([], e8395))
  else (bindR (m_topo_isNode p8385 p8388) fun e8400 =>
  sh (fun (s8468 : Bool) => (if s8468 then (.ok ([], 2))
  else (bindR (m_topo_reach p8385 p8388 p8389) fun e8472 =>
  .ok (e8472, 0)))) fun j8481 =>
  (if (!e8400) then (j8481 true)
  else (loopM (m_topo_Reach_l1 j8481 p8385 p8389) LL 0)))

/-! slices.Equal[[]int,int] -/
def m_slices_Equal_int_int_l1 (p8609 : (List Int)) (p8611 : (List Int)) (rec8647 : Int → R Bool) (s8636 : Int) : R Bool :=
  if (decide (s8636 < (p8609.length : Int))) then (bindR (idx p8609 s8636) fun e8653 =>
  bindR (idx p8611 s8636) fun e8656 =>
  if (decide (e8653 ≠ e8656)) then (.ok false)
  else (rec8647 (w64 (s8636 + 1))))
  else (.ok true)
def m_slices_Equal_int_int (p8609 : (List Int)) (p8611 : (List Int)) : R Bool :=
  if (decide ((p8609.length : Int) ≠ (p8611.length : Int))) then (.ok false)
  else (loopM (m_slices_Equal_int_int_l1 p8609 p8611) LL 0)

/-! slices.Equal[[]bool,bool] -/
def m_slices_Equal_bool_bool_l1 (p8683 : (List Bool)) (p8685 : (List Bool)) (rec8721 : Int → R Bool) (s8710 : Int) : R Bool :=
  if (decide (s8710 < (p8683.length : Int))) then (bindR (idx p8683 s8710) fun e8727 =>
  bindR (idx p8685 s8710) fun e8730 =>
  if (!(e8727 == e8730)) then (.ok false)
  else (rec8721 (w64 (s8710 + 1))))
  else (.ok true)
def m_slices_Equal_bool_bool (p8683 : (List Bool)) (p8685 : (List Bool)) : R Bool :=
  if (decide ((p8683.length : Int) ≠ (p8685.length : Int))) then (.ok false)
  else (loopM (m_slices_Equal_bool_bool_l1 p8683 p8685) LL 0)

/-! isochron/isochronlaw16.wakes -/
def m_isochronlaw16_wakes : R Bool :=
  bindR (m_isochronlaw16_line) fun e33 =>
  bindR (m_topo_From e33 0) fun e6854 =>
  bindR (m_topo_To e33 3) fun e6898 =>
  bindR (m_topo_Per e33 5) fun e6947 =>
  bindR (m_topo_Delay e33 4) fun e6996 =>
  bindR (m_topo_Ports e33 1) fun e7740 =>
  bindR (m_topo_Find e33 2 1) fun e8218 =>
  bindR (m_topo_Reach e33 0 ([1])) fun e8552 =>
  bindR (m_topo_From e33 6) fun e8561 =>
  sh ((decide (e6854.2 = 0)) && (decide (e6898.2 = 0))) fun (s8566 : Bool) =>
  (sh (s8566 && (decide (e6947.2 = 0))) fun (s8570 : Bool) =>
  (sh (s8570 && (decide (e6996.2 = 0))) fun (s8574 : Bool) =>
  (sh (s8574 && (decide (e7740.2 = 0))) fun (s8578 : Bool) =>
  (sh (s8578 && (decide (e8218.2 = 0))) fun (s8582 : Bool) =>
  (sh (s8582 && (decide (e8552.2 = 0))) fun (s8586 : Bool) =>
  (sh (s8586 && (decide (e6854.1 = 0))) fun (s8590 : Bool) =>
  (sh (s8590 && (decide (e6898.1 = 1))) fun (s8594 : Bool) =>
  (sh (s8594 && (decide (e6947.1 = 80))) fun (s8598 : Bool) =>
  (sh (s8598 && (decide (e6996.1 = 7))) fun (s8602 : Bool) =>
  (sh (fun (s8672 : Bool) => (sh (s8672 && (decide (e8218.1 = 3))) fun (s8676 : Bool) =>
  (sh (fun (s8746 : Bool) => (sh (s8746 && (decide (e8561.2 = 2))) fun (s8750 : Bool) =>
  (sh (fun (s8759 : Bool) => (.ok s8759)) fun j8762 =>
  (if s8750 then (bindR (m_topo_Check ((ApiTopo.mk 0 [] []))) fun e8765 =>
  j8762 (decide (e8765 = 260)))
  else (j8762 false))))) fun j8772 =>
  (if s8676 then (bindR (m_slices_Equal_bool_bool (e8552.1) ([true, true, false, false])) fun e8785 =>
  j8772 e8785)
  else (j8772 false))))) fun j8792 =>
  (if s8602 then (bindR (m_slices_Equal_int_int (e7740.1) ([1, 2])) fun e8805 =>
  j8792 e8805)
  else (j8792 false))))))))))))

/-! isochron/isochronlaw16.few -/
def m_isochronlaw16_few (p8863 : ApiTopo) : R ApiTopo :=
  bindR (must (decide (0 ≤ (min (p8863.Station.length : Int) 20) ∧ (min (p8863.Station.length : Int) 20) ≤ (p8863.Station.length : Int)))) fun _ =>
  bindR (must (decide (0 ≤ (min (p8863.Links.length : Int) 30) ∧ (min (p8863.Links.length : Int) 30) ≤ (p8863.Links.length : Int)))) fun _ =>
  .ok ((ApiTopo.mk p8863.Nodes (p8863.Station.take ((min (p8863.Station.length : Int) 20)).toNat) (p8863.Links.take ((min (p8863.Links.length : Int) 30)).toNat)))

/-! (isochron/topo.end).back -/
def m_topo_end_back (p8933 : TopoEnd) : R Int :=
  .ok ((bitXor .i64 p8933.port 1))

/-! isochron/topo.Back -/
def m_topo_Back (p8908 : ApiTopo) (p8911 : Int) : R (Int × Int) :=
  bindR (m_topo_Check p8908) fun e8920 =>
  if (decide (e8920 ≠ 0)) then (.ok (0, e8920))
  else (sh ((decide (p8911 < 0)) || (decide ((w64 (2 * (p8908.Links.length : Int))) ≤ p8911))) fun (s8926 : Bool) =>
  (if s8926 then (.ok (0, 2))
  else (bindR (idx p8908.Links (w64 (Int.tdiv p8911 2))) fun e8930 =>
  bindR (m_topo_end_back ((TopoEnd.mk e8930 p8911))) fun e8938 =>
  .ok (e8938, 0))))

/-! isochron/isochronref16.node -/
def m_isochronref16_node (p8996 : ApiTopo) (p8999 : Int) : R Bool :=
  sh ((decide (0 ≤ p8999)) && (decide (p8999 < p8996.Nodes))) fun (s9005 : Bool) =>
  (.ok s9005)

/-! isochron/isochronref16.link -/
def m_isochronref16_link (p8984 : ApiTopo) (p8987 : ApiLink) : R Bool :=
  bindR (m_isochronref16_node p8984 (p8987.A)) fun e9011 =>
  sh (fun (s9021 : Bool) => (sh (s9021 || (decide (p8987.A = p8987.B))) fun (s9025 : Bool) =>
  (sh (fun (s9037 : Bool) => (if s9037 then (.ok false)
  else (sh ((decide (1 ≤ p8987.Per)) && (decide (p8987.Per ≤ 1000))) fun (s9042 : Bool) =>
  (sh (s9042 && (decide (0 ≤ p8987.Delay))) fun (s9046 : Bool) =>
  (sh (s9046 && (decide (p8987.Delay ≤ 10000))) fun (s9050 : Bool) =>
  (.ok s9050)))))) fun j9062 =>
  (if s9025 then (j9062 true)
  else (bindR (idx p8984.Station p8987.A) fun e9065 =>
  if e9065 then (bindR (idx p8984.Station p8987.B) fun e9069 =>
  j9062 e9069)
  else (j9062 false)))))) fun j9075 =>
  (if (!e9011) then (j9075 true)
  else (bindR (m_isochronref16_node p8984 (p8987.B)) fun e9078 =>
  j9075 (!e9078)))

/-! isochron/isochronref16.In -/
def m_isochronref16_In_l1 (p9187 : (List Int)) (p9189 : Int) (rec9214 : Int → R Bool) (s9206 : Int) : R Bool :=
  if (decide (s9206 < (p9187.length : Int))) then (bindR (idx p9187 s9206) fun e9220 =>
  if (decide (e9220 = p9189)) then (.ok true)
  else (rec9214 (w64 (s9206 + 1))))
  else (.ok false)
def m_isochronref16_In (p9187 : (List Int)) (p9189 : Int) : R Bool :=
  loopM (m_isochronref16_In_l1 p9187 p9189) LL 0

/-! isochron/isochronref16.Reach -/
def m_isochronref16_Reach_l1 (p10378 : ApiTopo) (p10382 : (List Int)) (rec11273 : ((List Bool) × Int) → R (List Bool)) (s10980 : (List Bool) × Int) (rec11494 : ((List Bool) × Int) → R (List Bool)) (s11422 : (List Bool) × Int) : R (List Bool) :=
  if (decide (s11422.2 < (p10378.Links.length : Int))) then (bindR (idx p10378.Links s11422.2) fun e11500 =>
  bindR (m_isochronref16_In p10382 (s11422.2)) fun e11509 =>
  sh (fun (s11522 : (List Bool) × Bool) => (sh (fun (s11539 : (List Bool)) => (rec11494 (s11539, (w64 (s11422.2 + 1))))) fun j11543 =>
  (if s11522.2 then (bindR (idx s11522.1 e11500.A) fun e11545 =>
  bindR (idx (s11522.1.set (e11500.A).toNat true) e11500.B) fun e11551 =>
  j11543 ((s11522.1.set (e11500.A).toNat true).set (e11500.B).toNat true))
  else (j11543 s11522.1)))) fun j11557 =>
  (if (!e11509) then (bindR (idx s11422.1 e11500.A) fun e11560 =>
  if e11560 then (j11557 (s11422.1, true))
  else (bindR (idx s11422.1 e11500.B) fun e11564 =>
  j11557 (s11422.1, e11564)))
  else (j11557 (s11422.1, false))))
  else (rec11273 (s11422.1, (w64 (s10980.2 + 1))))
def m_isochronref16_Reach_l2 (p10378 : ApiTopo) (p10382 : (List Int)) (rec11273 : ((List Bool) × Int) → R (List Bool)) (s10980 : (List Bool) × Int) : R (List Bool) :=
  if (decide (s10980.2 < p10378.Nodes)) then (loopM (m_isochronref16_Reach_l1 p10378 p10382 rec11273 s10980) LL (s10980.1, 0))
  else (.ok (s10980.1))
def m_isochronref16_Reach (p10378 : ApiTopo) (p10381 : Int) (p10382 : (List Int)) : R (List Bool) :=
  bindR (must (decide (0 ≤ p10378.Nodes ∧ p10378.Nodes ≤ 1000000000))) fun _ =>
  bindR (idx (List.replicate (p10378.Nodes).toNat false) p10381) fun e10390 =>
  loopM (m_isochronref16_Reach_l2 p10378 p10382) LL (((List.replicate (p10378.Nodes).toNat false).set (p10381).toNat true), 0)

/-! isochron/isochronref16.Joins -/
def m_isochronref16_Joins (p11760 : ApiLink) (p11761 : Int) (p11762 : Int) : R Bool :=
  sh ((decide (p11760.A = p11761)) && (decide (p11760.B = p11762))) fun (s11768 : Bool) =>
  (sh (s11768 || ((decide (p11760.A = p11762)) && (decide (p11760.B = p11761)))) fun (s11772 : Bool) =>
  (.ok s11772))

/-! isochron/isochronref16.Right -/
def m_isochronref16_Right_l1 (e12386 : ApiLink) (p8949 : ApiTopo) (rec12380 : ((List Int) × Int) → R Bool) (s12068 : (List Int) × Int) (rec12490 : Int → R Bool) (s12460 : Int) : R Bool :=
  if (decide (s12460 < s12068.2)) then (bindR (idx p8949.Links s12460) fun e12496 =>
  bindR (m_isochronref16_Joins e12496 (e12386.A) (e12386.B)) fun e12499 =>
  if e12499 then (.ok false)
  else (rec12490 (w64 (s12460 + 1))))
  else (bindR (idx s12068.1 e12386.A) fun e12504 =>
  bindR (idx s12068.1 e12386.A) fun e12507 =>
  bindR (idx (s12068.1.set (e12386.A).toNat (w64 (e12504 + 1))) e12386.B) fun e12513 =>
  bindR (idx (s12068.1.set (e12386.A).toNat (w64 (e12504 + 1))) e12386.B) fun e12516 =>
  rec12380 (((s12068.1.set (e12386.A).toNat (w64 (e12504 + 1))).set (e12386.B).toNat (w64 (e12513 + 1))), (w64 (s12068.2 + 1))))
def m_isochronref16_Right_l2 (p8949 : ApiTopo) (rec12652 : ((List Int) × (List Bool) × Int) → R Bool) (s12611 : (List Int) × (List Bool) × Int) : R Bool :=
  if (decide (s12611.2.2 < p8949.Nodes)) then (bindR (idx s12611.2.1 s12611.2.2) fun e12658 =>
  sh (fun (s12674 : (List Int) × Bool) => (if s12674.2 then (.ok false)
  else (rec12652 (s12674.1, s12611.2.1, (w64 (s12611.2.2 + 1)))))) fun j12679 =>
  (if (!e12658) then (j12679 (s12611.1, true))
  else (bindR (idx p8949.Station s12611.2.2) fun e12682 =>
  if e12682 then (bindR (idx s12611.1 s12611.2.2) fun e12686 =>
  if (decide (e12686 < 1)) then (j12679 (s12611.1, true))
  else (bindR (idx s12611.1 s12611.2.2) fun e12690 =>
  j12679 (s12611.1, (decide (2 < e12690)))))
  else (j12679 (s12611.1, false)))))
  else (.ok true)
def m_isochronref16_Right_l3 (p8949 : ApiTopo) (rec12380 : ((List Int) × Int) → R Bool) (s12068 : (List Int) × Int) : R Bool :=
  if (decide (s12068.2 < (p8949.Links.length : Int))) then (bindR (idx p8949.Links s12068.2) fun e12386 =>
  bindR (m_isochronref16_link p8949 e12386) fun e12395 =>
  if (!e12395) then (.ok false)
  else (loopM (m_isochronref16_Right_l1 e12386 p8949 rec12380 s12068) LL 0))
  else (bindR (m_isochronref16_Reach p8949 0 ([])) fun e12522 =>
  loopM (m_isochronref16_Right_l2 p8949) LL (s12068.1, e12522, 0))
def m_isochronref16_Right (p8949 : ApiTopo) : R Bool :=
  sh ((decide (p8949.Nodes < 2)) || (decide (12 < p8949.Nodes))) fun (s8957 : Bool) =>
  (sh (s8957 || (decide ((p8949.Station.length : Int) ≠ p8949.Nodes))) fun (s8961 : Bool) =>
  (sh (s8961 || (decide (24 < (p8949.Links.length : Int)))) fun (s8965 : Bool) =>
  (if s8965 then (.ok false)
  else (bindR (must (decide (0 ≤ p8949.Nodes ∧ p8949.Nodes ≤ 1000000000))) fun _ =>
  loopM (m_isochronref16_Right_l3 p8949) LL ((List.replicate (p8949.Nodes).toNat 0), 0)))))

/-! isochron/isochronref16.Port -/
def m_isochronref16_Port (p12707 : ApiTopo) (p12710 : Int) : R Bool :=
  sh ((decide (0 ≤ p12710)) && (decide (p12710 < (w64 (2 * (p12707.Links.length : Int)))))) fun (s12716 : Bool) =>
  (.ok s12716)

/-! isochron/isochronref16.From -/
def m_isochronref16_From (p12778 : ApiTopo) (p12781 : Int) : R Int :=
  bindR (idx p12778.Links (w64 (Int.tdiv p12781 2))) fun e12786 =>
  if (decide ((Int.tmod p12781 2) = 1)) then (.ok (e12786.B))
  else (.ok (e12786.A))

/-! isochron/isochronref16.To -/
def m_isochronref16_To (p12802 : ApiTopo) (p12805 : Int) : R Int :=
  bindR (idx p12802.Links (w64 (Int.tdiv p12805 2))) fun e12810 =>
  if (decide ((Int.tmod p12805 2) = 1)) then (.ok (e12810.A))
  else (.ok (e12810.B))

/-! isochron/isochronref16.Per -/
def m_isochronref16_Per (p12829 : ApiTopo) (p12832 : Int) : R Int :=
  bindR (idx p12829.Links (w64 (Int.tdiv p12832 2))) fun e12837 =>
  .ok (e12837.Per)

/-! isochron/isochronref16.Delay -/
def m_isochronref16_Delay (p12849 : ApiTopo) (p12852 : Int) : R Int :=
  bindR (idx p12849.Links (w64 (Int.tdiv p12852 2))) fun e12857 =>
  .ok (e12857.Delay)

/-! isochron/isochronref16.Back -/
def m_isochronref16_Back (p12869 : Int) : R Int :=
  if (decide ((Int.tmod p12869 2) = 1)) then (.ok ((w64 (p12869 - 1))))
  else (.ok ((w64 (p12869 + 1))))

/-! isochron/isochronlaw16.TopoPorts -/
def m_isochronlaw16_TopoPorts (p1 : ApiTopo) (p4 : Int) : R Bool :=
  bindR (m_isochronlaw16_wakes) fun e8839 =>
  if (!e8839) then (.ok false)
  else (bindR (m_isochronlaw16_few p1) fun e8884 =>
  bindR (m_topo_From e8884 p4) fun e8892 =>
  bindR (m_topo_To e8884 p4) fun e8896 =>
  bindR (m_topo_Per e8884 p4) fun e8900 =>
  bindR (m_topo_Delay e8884 p4) fun e8904 =>
  bindR (m_topo_Back e8884 p4) fun e8945 =>
  bindR (m_isochronref16_Right e8884) fun e12702 =>
  sh (fun (s12727 : Int) => (sh ((decide (e8892.2 ≠ s12727)) || (decide (e8896.2 ≠ s12727))) fun (s12733 : Bool) =>
  (sh (s12733 || (decide (e8900.2 ≠ s12727))) fun (s12737 : Bool) =>
  (sh (s12737 || (decide (e8904.2 ≠ s12727))) fun (s12741 : Bool) =>
  (sh (s12741 || (decide (e8945.2 ≠ s12727))) fun (s12745 : Bool) =>
  (if s12745 then (.ok false)
  else (if (decide (s12727 ≠ 0)) then (sh ((decide (e8892.1 = 0)) && (decide (e8896.1 = 0))) fun (s12751 : Bool) =>
  (sh (s12751 && (decide (e8900.1 = 0))) fun (s12755 : Bool) =>
  (sh (s12755 && (decide (e8904.1 = 0))) fun (s12759 : Bool) =>
  (sh (s12759 && (decide (e8945.1 = 0))) fun (s12763 : Bool) =>
  (.ok s12763)))))
  else (bindR (m_isochronref16_From e8884 p4) fun e12796 =>
  sh (fun (s12824 : Bool) => (sh (fun (s12844 : Bool) => (sh (fun (s12864 : Bool) => (sh (fun (s12875 : Bool) => (.ok s12875)) fun j12878 =>
  (if s12864 then (bindR (m_isochronref16_Back p4) fun e12881 =>
  j12878 (decide (e8945.1 = e12881)))
  else (j12878 false)))) fun j12885 =>
  (if s12844 then (bindR (m_isochronref16_Delay e8884 p4) fun e12888 =>
  j12885 (decide (e8904.1 = e12888)))
  else (j12885 false)))) fun j12892 =>
  (if s12824 then (bindR (m_isochronref16_Per e8884 p4) fun e12895 =>
  j12892 (decide (e8900.1 = e12895)))
  else (j12892 false)))) fun j12899 =>
  (if (decide (e8892.1 = e12796)) then (bindR (m_isochronref16_To e8884 p4) fun e12902 =>
  j12899 (decide (e8896.1 = e12902)))
  else (j12899 false)))))))))) fun j12730 =>
  (if (!e12702) then (j12730 260)
  else (bindR (m_isochronref16_Port e8884 p4) fun e12918 =>
  if (!e12918) then (j12730 2)
  else (j12730 0))))
end Go.AM
